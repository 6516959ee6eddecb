/- Contracts of the functions that the law reaches, walked, and the plain laws on them (several texts in one). -/
import Derived.RegionTactic
import Derived.Deep.RegionHeld3
import Derived.Test.YtgeakpeaohggoaaM08
import Derived.Test.YtgeakpeaohggoaaM01

/- Devices: scripts and disks that came in; those that are refused. -/
namespace Go.Proofs.Ytgeakpeaohggoaa
open Go.RowKit Go.Mum
set_option linter.unusedVariables false
set_option linter.unusedSimpArgs false
set_option maxRecDepth 100000

theorem rd_nil (w : World) (sz : Nat) : Rd w sz none 0 0 [] := ⟨by simp, by simp, ⟨Nat.le_refl _, by unfold maxLen; omega⟩, fun _ => rfl, .inl rfl⟩

theorem cap_of_fits {P : Program} {w : World} {B n : Nat} {t e : TypeId} {a : Option Addr} {len cap : Nat} (h : Fits P w B n t [.slice a len cap]) (ht : P.underlying t = some (.slice e)) :
    (len ≤ cap ∧ cap ≤ maxLen) ∧ (a = none → len = 0) := by
  rcases h.slice ht with ⟨rfl, rfl, rfl⟩ | ⟨b, m, rfl, h1, h2, _⟩
  · exact ⟨⟨Nat.le_refl _, by unfold maxLen; omega⟩, fun _ => rfl⟩
  · exact ⟨⟨h1, h2⟩, fun h => by cases h⟩

theorem evsC_one (L : List Ev) : ∀ u ∈ evsC L, u.oneCell' = true := by
  intro u hu
  simp only [evsC, List.mem_flatMap, evC, List.mem_cons, List.not_mem_nil, or_false] at hu
  obtain ⟨e, _, rfl | rfl | rfl⟩ := hu <;> rfl

theorem evsC_at (L : List Ev) (i j : Nat) (hj : j < 3) (u : Value) (h : (evsC L)[i * 3 + j]? = some u) : ∃ e, L[i]? = some e ∧ (evC e)[j]? = some u := by
  induction L generalizing i with
  | nil => simp [evsC] at h
  | cons e l ih =>
    rw [evsC_cons] at h
    cases i with
    | zero =>
      rw [List.getElem?_append_left (by simp [evC]; omega)] at h
      exact ⟨e, rfl, by simpa using h⟩
    | succ i =>
      rw [List.getElem?_append_right (by simp [evC]; omega)] at h
      have : (i + 1) * 3 + j - (evC e).length = i * 3 + j := by simp [evC]; omega
      rw [this] at h
      obtain ⟨e', h1, h2⟩ := ih i h
      exact ⟨e', by simpa using h1, h2⟩

/-- A script that came in. -/
theorem evs_of_fits {w : World} {B m : Nat} {s : Option Addr} {len cap : Nat} (h : Fits Try.prog w B m 23 [.slice s len cap]) : ∃ L : List Ev, len = L.length ∧ Rd w 3 s len cap (evsC L) ∧ ∀ e ∈ L, e.Ok := by
  obtain ⟨hcap, hno⟩ := cap_of_fits h Try.underlying23
  rcases h.rows Try.underlying23 3 (by kernel_rfl) (by omega) with h | ⟨lb, off, mm, rfl, _, h1, h2, _, hlt, h3⟩
  · subst h
    exact ⟨[], rfl, ⟨by simp [evsC], by simp [evsC], hcap, fun _ => rfl, .inl rfl⟩, by simp⟩
  · have each : ∀ i, ∃ e : Ev, i < len → e.Ok ∧ w.cell? ⟨lb, off + i * 3, none⟩ = some (.int .i64 e.at') ∧ w.cell? ⟨lb, off + i * 3 + 1, none⟩ = some (.int .i64 e.kd) ∧ w.cell? ⟨lb, off + i * 3 + 2, none⟩ = some (.int .u8 e.by') := by
      intro i
      by_cases hi : i < len
      · obtain ⟨ds, hd, hc, hf⟩ := h3 i hi
        obtain ⟨m', hl, hfs⟩ := hf.struct Try.underlying25
        have q1 : Try.prog.cellsOf 5 = 1 := by kernel_rfl
        have q2 : Try.prog.cellsOf 3 = 1 := by kernel_rfl
        match ds, hd with
        | [d0, d1, d2], _ =>
          obtain ⟨z0, e0, g0⟩ := (hfs _ (.head _)).int Try.underlying3
          obtain ⟨z1, e1, g1⟩ := (hfs _ (.tail _ (.head _))).int Try.underlying3
          obtain ⟨z2, e2, g2⟩ := (hfs _ (.tail _ (.tail _ (.head _)))).int Try.underlying5
          simp [q1, q2] at e0 e1 e2
          subst e0 e1 e2
          have h0 := wf_i64 g0
          have h1' := wf_i64 g1
          have h2' := wf_u8 g2
          refine ⟨⟨z0, z1, z2⟩, fun _ => ⟨⟨h0, h1', (by show 0 ≤ z2 ∧ z2 < 256; omega)⟩, ?_, ?_, ?_⟩⟩
          · have := hc 0 (by omega); simpa using this
          · have := hc 1 (by omega); simpa using this
          · have := hc 2 (by omega); simpa using this
      · exact ⟨⟨0, 0, 0⟩, fun h => absurd h hi⟩
    refine ⟨(List.range len).map (fun i => (each i).choose), by simp, ⟨by rw [evsC_length]; simp, evsC_one _, hcap, hno, .inr ⟨lb, off, rfl, fun j u hu => ?_⟩⟩, ?_⟩
    · have hj : j = j / 3 * 3 + j % 3 := by omega
      rw [hj] at hu
      obtain ⟨e, he, hu'⟩ := evsC_at _ _ _ (Nat.mod_lt _ (by decide)) _ hu
      rw [List.getElem?_map] at he
      obtain ⟨i, hi, rfl⟩ := Option.map_eq_some_iff.1 he
      have hlt : j / 3 < len := by
        rcases Nat.lt_or_ge (j / 3) len with h | h
        · exact h
        · rw [List.getElem?_eq_none (by simpa using h)] at hi; cases hi
      rw [List.getElem?_range hlt] at hi
      cases hi
      obtain ⟨_, c0, c1, c2⟩ := (each (j / 3)).choose_spec hlt
      have hm : j % 3 = 0 ∨ j % 3 = 1 ∨ j % 3 = 2 := by omega
      rcases hm with hm | hm | hm
      · rw [hm] at hu'
        simp only [evC, List.getElem?_cons_zero, Option.some.injEq] at hu'
        rw [← hu', show off + j = off + j / 3 * 3 by omega]; exact c0
      · rw [hm] at hu'
        simp only [evC, List.getElem?_cons_succ, List.getElem?_cons_zero, Option.some.injEq] at hu'
        rw [← hu', show off + j = off + j / 3 * 3 + 1 by omega]; exact c1
      · rw [hm] at hu'
        simp only [evC, List.getElem?_cons_succ, List.getElem?_cons_zero, Option.some.injEq] at hu'
        rw [← hu', show off + j = off + j / 3 * 3 + 2 by omega]; exact c2
    · intro e he
      obtain ⟨i, hi, rfl⟩ := List.mem_map.1 he
      exact ((each i).choose_spec (List.mem_range.1 hi)).1

/-- Bytes that came in. -/
theorem bytes_of_fits {w : World} {B m : Nat} {s : Option Addr} {len cap : Nat} (h : Fits Try.prog w B m 22 [.slice s len cap]) : ∃ D : List Int, len = D.length ∧ Rd w 1 s len cap (u8s D) ∧ IsBytes D := by
  obtain ⟨hcap, hno⟩ := cap_of_fits h Try.underlying22
  obtain ⟨D, hl, hr, _⟩ := row_of_fits h
  refine ⟨D, hl, ⟨by rw [u8s_length]; omega, fun u hu => by obtain ⟨z, _, rfl⟩ := List.mem_map.1 hu; rfl, hcap, hno, ?_⟩, hr.bytes⟩
  rcases hr.at' with ⟨_, rfl, _⟩ | ⟨rfl, _⟩ | ⟨b, off, rfl, hc⟩
  · exact .inl (by simpa using hl)
  · exact .inl (by simpa using hl)
  · refine .inr ⟨b, off, rfl, fun j u hu => ?_⟩
    have hj : j < D.length := by
      rcases Nat.lt_or_ge j D.length with h | h
      · exact h
      · rw [List.getElem?_eq_none (by simpa [u8s] using h)] at hu; cases hu
    rw [hc j hj]
    simp only [u8s, List.getElem?_map, List.getElem?_eq_getElem hj, Option.map_some, Option.some.injEq] at hu
    rw [← hu]
    simp [List.getD, List.getElem?_eq_getElem hj]

/-- What is wrong with a script and a disk of n bytes. -/
def errS (L : List Ev) (n : Nat) : Nat := if 64 < L.length ∨ 2048 < n then 3 else if (L.all mayB && decide (n % 64 = 0)) = true then 0 else 2

theorem errS_zero {L : List Ev} {n : Nat} (h : errS L n = 0) : L.length ≤ 64 ∧ n ≤ 2048 ∧ (∀ e ∈ L, mayB e = true) ∧ n % 64 = 0 := by
  unfold errS at h
  split at h
  · cases h
  · split at h
    · rename_i h1 h2
      simp only [Bool.and_eq_true, List.all_eq_true, decide_eq_true_eq] at h2
      exact ⟨by omega, by omega, h2.1, h2.2⟩
    · cases h

set_option maxHeartbeats 1000000 in
theorem new_no {w : World} {a a2 : Option Addr} {c n2 c2 : Nat} {L : List Ev} (h : Rd w 3 a L.length c (evsC L)) (he : errS L n2 ≠ 0) :
    Calls Try.prog 11 #[.slice a L.length c, .slice a2 n2 c2] w fun e w' => e = .returned (.tuple #[.pointer none, .int .i64 (errS L n2 : Nat)]) ∧ Keep [] w w' := by
  obtain ⟨n, hnl⟩ : ∃ n, n = L.length := ⟨_, rfl⟩
  rw [← hnl] at h ⊢
  have H := Lib.hid h
  have hcap := h.cap
  clear h
  by_cases h1 : 64 < n
  · have hE : errS L n2 = 3 := by unfold errS; rw [if_pos (.inl (by omega))]
    have t1 : decide ((64 : Int) < (n : Int)) = true := decide_eq_true (by omega)
    rw [hE]
    go_enter Try.func11, Try.ntmps11
    go_wp2
    go_ret2
    exact ⟨rfl, Keep.refl _ _⟩
  have t1 : decide ((64 : Int) < (n : Int)) = false := decide_eq_false (by omega)
  by_cases h2 : 2048 < n2
  · have hE : errS L n2 = 3 := by unfold errS; rw [if_pos (.inr h2)]
    have t2 : decide ((2048 : Int) < (n2 : Int)) = true := decide_eq_true (by omega)
    rw [hE]
    go_enter Try.func11, Try.ntmps11
    go_wp2
    go_ret2
    exact ⟨rfl, Keep.refl _ _⟩
  have t2 : decide ((2048 : Int) < (n2 : Int)) = false := decide_eq_false (by omega)
  have hE : errS L n2 = 2 ∧ (L.all mayB = true → n2 % 64 ≠ 0) := by
    unfold errS at he ⊢
    have hno : ¬ (64 < L.length ∨ 2048 < n2) := by omega
    rw [if_neg hno] at he ⊢
    split at he
    · exact absurd rfl he
    · rename_i hx
      rw [if_neg hx]
      refine ⟨rfl, fun ha hz => hx ?_⟩
      simp [ha, hz]
  rw [hE.1]
  have HM := Lib.hid hE.2
  have HNL := Lib.hid hnl
  have td : (n2 : Int).tmod 64 = (n2 : Int) % 64 := Int.tmod_eq_emod_of_nonneg (by omega)
  clear hE hnl he
  go_enter Try.func11, Try.ntmps11
  go_wp2
  go_loopw [7, 18, 19, 20, 21, 22, 23, 24, 25] (fun _ i _ _ _ _ _ _ _ wr => ∃ k : Nat, k ≤ n ∧ i = .int .i64 k ∧ Hid (Keep [] w wr ∧ (L.take k).all mayB = true)) (fun _ i _ _ _ _ _ _ _ _ => n - (intOf i).toNat)
  case atStart => exact ⟨0, by omega, rfl, Lib.hid ⟨Keep.refl _ _, by simp⟩⟩
  case round =>
    obtain ⟨k, hk, rfl, HK⟩ := hrel
    by_cases hkn : k < n
    · have hkL : k < L.length := by rw [← HNL.out]; exact hkn
      obtain ⟨e, he⟩ : ∃ e, L[k]? = some e := ⟨L[k], by simp⟩
      obtain ⟨g1, g2, g3⟩ := evsC_get he
      obtain ⟨h0, _⟩ | ⟨b, off, rfl, hc⟩ := H.out.at'.imp (fun h => And.intro h trivial) id
      · omega
      have c0 := HK.out.1.cell (hc _ _ g1) (by simp)
      have c1 : wr.cell? ⟨b, off + k * 3 + 1, none⟩ = some (.int .i64 e.kd) := HK.out.1.cell (hc _ _ g2) (by simp)
      have c2' : wr.cell? ⟨b, off + k * 3 + 2, none⟩ = some (.int .u8 e.by') := HK.out.1.cell (hc _ _ g3) (by simp)
      have fz : ∀ cs t i, (wr.alloc (.cells cs t)).frozen? ⟨wr.heap.size, i, none⟩ = false := fun cs t i => frozen_of (heap_alloc_at _ rfl) i
      have t3 : decide ((k : Int) < (n : Int)) = true := decide_eq_true (by omega)
      have w1 : IntKind.i64.wrap ((k : Int) + 1) = (k : Int) + 1 := by rw [IntKind.wrap_i64]; omega
      have HE := Lib.hid he
      clear g1 g2 g3 hc hkL he
      cases hme : mayB e
      · go_wp2_with (go_at_call 34; refine (may_at _ e).mono ?_; rintro r w2 ⟨rfl, hk2⟩; rw [hme]; have H2 := Lib.hid hk2; clear hk2)
        go_ret2
        exact ⟨rfl, (HK.out.1.alloc _).trans H2.out⟩
      · go_wp2_with (go_at_call 34; refine (may_at _ e).mono ?_; rintro r w2 ⟨rfl, hk2⟩; rw [hme]; have H2 := Lib.hid hk2; clear hk2)
        go_roundw
        case rel => exact ⟨k + 1, by omega, by go_num, Lib.hid ⟨(HK.out.1.alloc _).trans H2.out, by rw [List.take_add_one, HE.out, List.all_append, HK.out.2]; simp [hme]⟩⟩
        case measure => simp [intOf]; omega
    · obtain rfl : k = n := by omega
      have t3 : decide ((k : Int) < (k : Int)) = false := decide_eq_false (by omega)
      have hz : n2 % 64 ≠ 0 := HM.out (by have := HK.out.2; rwa [HNL.out, List.take_length] at this)
      have t4 : ((n2 : Int) % 64 != 0) = true := by simp; omega
      have t4' : ((n2 : Int) % 64 == 0) = false := by simp; omega
      clear hz
      go_wp2
      go_ret2
      exact ⟨rfl, HK.out.1⟩

end Go.Proofs.Ytgeakpeaohggoaa

/- A region whose order is drawn: the condition on the world may grow as the calls come back. -/
namespace Go.Mum
open Go.RowKit

section
variable {P : Program} {ops : Array Oper} {Q : Exit → Act → World → Prop} {md : Region.Mode} {S S' : World → Prop}

theorem wpAnyH_grow (h : ∀ w, S' w → S w) : ∀ (fuel : Nat) (listed : Array Bool) (a : Act) (w : World), wpAnyH P md ops Q S' fuel listed a w → wpAnyH P md ops Q S fuel listed a w
  | 0, _, _, _, q => q
  | fuel + 1, _, _, _, q => ⟨q.1, fun i hi => wpOp_mono (fun a' w' r => ⟨h _ r.1, wpAnyH_grow h fuel _ a' w' r.2⟩) (q.2 i hi)⟩

/-- Behind a call: the region goes on under a condition that says more. -/
theorem shut_grow {fuel : Nat} {listed : Array Bool} {K : Act → World → Prop} (S' : World → Prop) (hK : Shut (∀ a w, S w → (S w → wpAnyH P md ops Q S fuel listed a w) → K a w)) (h : ∀ w, S' w → S w)
    {a : Act} {w : World} (hS : S' w) (hw : S' w → wpAnyH P md ops Q S' fuel listed a w) : K a w :=
  hK.out a w (h w hS) fun _ => wpAnyH_grow h fuel listed a w (hw hS)
end
end Go.Mum

/- Devices: small laws that the laws' walks share. -/
namespace Go.Proofs.Ytgeakpeaohggoaa
open Go.RowKit Go.Mum
set_option linter.unusedVariables false
set_option linter.unusedSimpArgs false
set_option maxRecDepth 100000

theorem cntD_all {t : Int} : ∀ {L : List Ev}, (∀ e ∈ L, e.at' ≤ t) → cntD t L = L.length
  | [], _ => rfl
  | e :: r, h => by
    have h1 := h e (by simp)
    have h2 := cntD_all (t := t) (L := r) (fun x hx => h x (by simp [hx]))
    simp [cntD, h1, h2]

theorem errS_cases {L : List Ev} {n : Nat} (h : errS L n ≠ 0) : errS L n = 3 ∨ errS L n = 2 := by
  unfold errS at h ⊢
  split
  · exact .inl rfl
  · rename_i h1
    rw [if_neg h1] at h
    split
    · rename_i h2
      rw [if_pos h2] at h
      exact absurd rfl h
    · exact .inr rfl

theorem wantN_off (a : Nat) : wantN 0 a = 0 := rfl

theorem come1_out (t : DS) (e : Ev) : (come1 t e).out = t.out := by
  unfold come1 pressS
  split
  · rfl
  · split
    · rfl
    · split <;> rfl
theorem comes_out : ∀ (l : List Ev) (t : DS), (l.foldl come1 t).out = t.out
  | [], _ => rfl
  | e :: r, t => by rw [List.foldl_cons, comes_out r, come1_out]
theorem comeK_out (s : DS) (k : Nat) : (comeK s k).out = s.out := comes_out _ _

theorem fresh_next {W0 w x : World} {F F' : List Nat} (h : ∀ k ∈ F, W0.heap.size ≤ k) (hs : W0.heap.size ≤ w.heap.size) (h' : ∀ k ∈ F', k ∈ F ∨ w.heap.size ≤ k) : ∀ k ∈ F', W0.heap.size ≤ k :=
  fun k hk => (h' k hk).elim (h k) (fun h => by omega)
theorem keep_next {W0 w x : World} {F : List Nat} (hk0 : Keep [] W0 w) (h : ∀ k ∈ F, W0.heap.size ≤ k) (hk : Keep F w x) : Keep [] W0 x :=
  hk0.then hk (fun k hk hlt => by have := h k hk; omega)

end Go.Proofs.Ytgeakpeaohggoaa
