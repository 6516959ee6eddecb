/- Has, Tables; the document's Look. -/
import Derived.Test.YtpinoejckagjbaaSd8
import Derived.Outline
namespace Go.Proofs.Ytpinoejckagjbaa
open Go.RowKit Go.Mum
set_option linter.unusedVariables false
set_option linter.unusedSimpArgs false
set_option maxRecDepth 100000

def hasB (T : Nat → Tab) (va : Nat) : Bool := decide (va / 1024 < 32) && (T (va / 1024)).th
def cntT (T : Nat → Tab) (k : Nat) : Nat := ((List.range k).filter fun n => (T n).th).length
def hitB (ps : List Pg) (va : Nat) : Bool := decide (∃ q ∈ ps, q.1 = va - va % 64)

set_option maxHeartbeats 2000000 in
theorem shas_at {w : World} {s r p : Nat} {dir : Int} {T : Nat → Tab} (h : ShAt w s r p dir T) (va : Nat) (hv : va < 4294967296) :
    Calls Try.prog 26 #[.pointer (some ⟨s, 0, none⟩), .int .u32 va] w fun e w' => e = .returned (.bool (hasB T va)) ∧ w = w' := by
  obtain ⟨c0, c1, c2, c3⟩ := h.heads
  have C0 := Lib.hid (snone_at c0)
  obtain ⟨n, hn⟩ : ∃ n, n = va / 1024 := ⟨_, rfl⟩
  have n1 : (va : Int) / 1024 = (n : Int) := by omega
  have HH : Hid (hasB T va = (decide (n < 32) && (T n).th)) := Lib.hid (by rw [hn]; rfl)
  by_cases hn32 : n < 32
  · have ct := h.th hn32
    have hi : (n : Int) < 32 := by omega
    have hi0 : (0 : Int) ≤ (n : Int) := by omega
    have HF : Hid (hasB T va = (T n).th) := Lib.hid (by rw [HH.out]; simp [hn32])
    generalize (T n).th = b at ct HF
    clear h hn hn32
    go_enter Try.func26, Try.ntmps26
    go_wp2_with fail
    refine C0.out.mono ?_
    rintro e w' ⟨rfl, rfl⟩
    go_wp2_with fail
    go_ret
    exact ⟨by rw [HF.out]; rfl, rfl⟩
  · have hi : ¬ ((n : Int) < 32) := by omega
    have HF : Hid (hasB T va = false) := Lib.hid (by rw [HH.out]; simp [hn32])
    clear h hn hn32
    go_enter Try.func26, Try.ntmps26
    go_wp2_with fail
    refine C0.out.mono ?_
    rintro e w' ⟨rfl, rfl⟩
    go_wp2_with fail
    go_ret
    exact ⟨by rw [HF.out]; rfl, rfl⟩

theorem cnt_succ (T : Nat → Tab) (k : Nat) : cntT T (k + 1) = cntT T k + (if (T k).th = true then 1 else 0) := by
  unfold cntT
  rw [List.range_succ, List.filter_append, List.length_append]
  congr 1
  cases h : (T k).th <;> simp [h]

set_option maxHeartbeats 2000000 in
theorem stables_at {w : World} {s r p : Nat} {dir : Int} {T : Nat → Tab} (h : ShAt w s r p dir T) :
    Calls Try.prog 25 #[.pointer (some ⟨s, 0, none⟩)] w fun e w' => e = .returned (.int .i64 (cntT T 32 : Nat)) ∧ w = w' := by
  have H := Lib.hid h
  clear h
  go_enter Try.func25, Try.ntmps25
  go_wp2_with fail
  go_loopw [3, 5] (fun nv kv wr => ∃ k n : Nat, kv = .int .u32 k ∧ nv = .int .i64 n ∧ k ≤ 32 ∧ n ≤ k ∧ Hid (n = cntT T k) ∧ w = wr) (fun _ kv _ => 32 - (intOf kv).toNat)
  case atStart => exact ⟨0, 0, rfl, rfl, by omega, by omega, Lib.hid rfl, rfl⟩
  case round =>
    obtain ⟨k, n, rfl, rfl, hk1, hk2, HN, rfl⟩ := hrel
    by_cases hk : k < 32
    · have hi : (k : Int) < 32 := by omega
      have hcon := shas_at H.out (k * 1024) (by omega)
      rw [show ((k * 1024 : Nat) : Int) = (k : Int) * 1024 by omega] at hcon
      have HC := Lib.hid hcon
      clear hcon
      cases ht : (T k).th
      all_goals
        have HB : Hid (hasB T (k * 1024) = (T k).th) := Lib.hid (by unfold hasB; rw [show k * 1024 / 1024 = k by omega]; simp [hk])
        rw [HB.out, ht] at HC
        have HS := Lib.hid (cnt_succ T k)
        rw [ht] at HS
        clear ht
        go_wp2_with fail
        refine HC.out.mono ?_
        rintro e w' ⟨rfl, rfl⟩
        go_wp2_with fail
        go_roundw
        case measure => simp [intOf]; omega
        case rel => first | exact ⟨k + 1, n, by go_num, rfl, by omega, by omega, Lib.hid (by rw [HS.out, ← HN.out]; simp), trivial⟩ | exact ⟨k + 1, n + 1, by go_num, by go_num, by omega, by omega, Lib.hid (by rw [HS.out, ← HN.out]; simp), trivial⟩
    · have hi : ¬ ((k : Int) < 32) := by omega
      obtain rfl : k = 32 := by omega
      go_wp2_with fail
      go_ret
      exact ⟨by rw [← HN.out]; rfl, rfl⟩

def LookR (ps : List Pg) (va : Nat) (x : World) (e : Ending) (y : World) : Prop :=
  ∃ a b c : Int, e = .returned (.tuple #[.agg #[.int .u32 a, .int .i64 b, .int .u32 c], .bool (hitB ps va)]) ∧ Keep [] x y

set_option maxHeartbeats 2000000 in
theorem rslook_at {x : World} {wb most : Nat} {ps : List Pg} {ts : List Nat} {pv tv : Value} (h : RS x wb most ps ts pv tv) (hl : ps.length ≤ 1000) (va : Nat) (hv : va < 4294967296) :
    Calls Try.prog 27 #[.pointer (some ⟨wb, 0, none⟩), .int .u32 va] x (LookR ps va x) := by
  obtain ⟨c0, c1, c2, c3⟩ := h.cells
  obtain ⟨pa, pc, hpv⟩ := own_form h.prow
  have HP := Lib.hid h.prow
  subst hpv
  obtain ⟨m, hm⟩ : ∃ m, m = va % 64 := ⟨_, rfl⟩
  obtain ⟨pg, hpg⟩ : ∃ p, p = va - va % 64 := ⟨_, rfl⟩
  have t1 : ((va : Int)).tmod 64 = (m : Int) := by rw [Int.tmod_eq_emod_of_nonneg (by omega)]; omega
  have u1 : (va : Int) % 64 = (m : Int) := by omega
  have u2 : IntKind.u32.wrap ((va : Int) - (m : Int)) = (pg : Int) := by rw [IntWalk.u32_in _ (by omega)]; omega
  have HG := Lib.hid hpg
  have c1' : ∀ o, (x.alloc o).cell? ⟨wb, 1, none⟩ = some (.slice pa ps.length pc) := fun o => ((Keep.refl [] x).alloc o).cell c1 (by simp)
  have c1 := c1' (.cells #[.int .u32 0, .int .i64 0, .int .u32 0] 65)
  obtain ⟨sz, hsz⟩ : ∃ sz, sz = x.heap.size := ⟨_, rfl⟩
  clear hm hpg c0 c2 c3 c1' h
  go_enter Try.func27, Try.ntmps27
  go_wp2_with fail
  rw [← hsz]
  generalize hy : World.alloc x _ = y0 at *
  have HK : Hid (Keep [] x y0 ∧ y0.heap[sz]? = some (.cells #[.int .u32 0, .int .i64 0, .int .u32 0] 65 (0, 0)) ∧ sz = x.heap.size) := Lib.hid (by
    subst hy hsz
    exact ⟨(Keep.refl [] x).alloc _, heap_alloc_same x _, rfl⟩)
  clear hy hsz
  go_loopw [6] (fun kv wr => ∃ k : Nat, kv = .int .i64 k ∧ k ≤ ps.length ∧ y0 = wr ∧ Hid (∀ j (hj : j < ps.length), j < k → (ps[j]).1 ≠ pg)) (fun kv _ => ps.length - (intOf kv).toNat)
  case atStart => exact ⟨0, rfl, by omega, rfl, Lib.hid (fun j hj h => by omega)⟩
  case round =>
    obtain ⟨k, rfl, hk1, rfl, HJ⟩ := hrel
    have hheap := HK.out.2.1
    have z0 := cell_of hheap 0 rfl
    have z1 := cell_of hheap 1 rfl
    have z2 := cell_of hheap 2 rfl
    have f0 : y0.frozen? ⟨sz, 0, none⟩ = false := frozen_of hheap 0
    have f1 : y0.frozen? ⟨sz, 1, none⟩ = false := frozen_of hheap 1
    have f2 : y0.frozen? ⟨sz, 2, none⟩ = false := frozen_of hheap 2
    have HS : Hid (∀ a b c : Value, Keep [] x (((y0.setCell ⟨sz, 0, none⟩ a).setCell ⟨sz, 1, none⟩ b).setCell ⟨sz, 2, none⟩ c)) := Lib.hid (fun a b c => by
      have h1 := keepSet (b := sz) (keepSet (b := sz) (keepSet (b := sz) (Keep.refl [sz] y0) (by simp) 0 a) (by simp) 1 b) (by simp) 2 c
      exact HK.out.1.then h1 (by have := HK.out.2.2; simp; omega))
    by_cases hkl : k < ps.length
    · obtain ⟨g, rfl, hg⟩ := own_some HP.out (by omega)
      have hq0 := hg (k * 3 + 0) (by omega)
      have hq1 := hg (k * 3 + 1) (by omega)
      have hq2 := hg (k * 3 + 2) (by omega)
      rw [pgL_get ps k hkl _ (by omega)] at hq0 hq1 hq2
      obtain ⟨q, hq⟩ : ∃ q, q = ps[k] := ⟨_, rfl⟩
      rw [← hq] at hq0 hq1 hq2
      have hk := HK.out.1
      replace hq0 : y0.cell? ⟨g, k * 3, none⟩ = some (.int .u32 (q.1 : Nat)) := hk.cell hq0 (by simp)
      replace hq1 : y0.cell? ⟨g, k * 3 + 1, none⟩ = some (.int .i64 (q.2.1 : Nat)) := hk.cell hq1 (by simp)
      replace hq2 : y0.cell? ⟨g, k * 3 + 2, none⟩ = some (.int .u32 (q.2.2 : Nat)) := hk.cell hq2 (by simp)
      have hk0 : (0 : Int) ≤ (k : Int) := by omega
      have hk3 : (k : Int) < (ps.length : Int) := by omega
      have HQ := Lib.hid hq
      obtain ⟨qa, qf, qb⟩ := q
      simp only at hq0 hq1 hq2
      clear hg hq hk hheap
      by_cases he : qa = pg
      · have HD : Hid (hitB ps va = true) := Lib.hid (decide_eq_true ⟨ps[k], List.getElem_mem hkl, by rw [← HQ.out, ← HG.out]; exact he⟩)
        subst he
        go_wp2_with fail
        refine bodyPost_ret (v := .tuple #[.agg #[.int .u32 qa, .int .i64 qf, .int .u32 qb], .bool true]) ?_ rfl ?_
        · simp [results, Try.results27, go_sem, z0, z1, z2]
        · exact ⟨_, _, _, by rw [HD.out], HS.out _ _ _⟩
      · have he' : ((qa : Int) == (pg : Int)) = false := by rw [beq_eq_false_iff_ne]; omega
        have he2 : (qa == pg) = false := by rw [beq_eq_false_iff_ne]; exact he
        have HJ2 : Hid (∀ j (hj : j < ps.length), j < k + 1 → (ps[j]).1 ≠ pg) := Lib.hid (fun j hj h => by
          rcases (by omega : j < k ∨ j = k) with h | rfl
          · exact HJ.out j hj h
          · rw [← HQ.out]; exact he)
        clear he z0 z1 z2 f0 f1 f2
        go_wp2_with fail
        go_roundw
        case rel => exact ⟨k + 1, by go_num, by omega, trivial, HJ2⟩
        case measure => simp [intOf]; omega
    · have HD : Hid (hitB ps va = false) := Lib.hid (decide_eq_false (fun ⟨q, hq, e⟩ => by
        obtain ⟨j, hj, e2⟩ := List.getElem_of_mem hq
        exact HJ.out j hj (by omega) (by rw [e2, HG.out]; exact e)))
      have hk3 : ¬ ((k : Int) < (ps.length : Int)) := by omega
      clear hk1 hkl hheap HJ
      go_wp2_with fail
      refine bodyPost_ret (v := .tuple #[.agg #[.int .u32 0, .int .i64 0, .int .u32 0], .bool false]) ?_ rfl ?_
      · simp [results, Try.results27, go_sem, z0, z1, z2]
      · exact ⟨_, _, _, by rw [HD.out], HS.out _ _ _⟩
end Go.Proofs.Ytpinoejckagjbaa
