/- The document's memory: words and bytes laid, frames. -/
import Derived.Test.YtnpnedimgfbnhaaRef1
import Derived.StillTailTactics
namespace Go.Proofs.Ytnpnedimgfbnhaa
open Go.RowKit Go.Mum

theorem le4_take {s : Nat} (hs : s < 4294967296) : ∀ k, k < 4 → (le4 s).take (k + 1) = (le4 s).take k ++ [((s / 256 ^ k % 256 : Nat) : Int)]
  | 0, _ => by simp [le4]
  | 1, _ => by simp [le4]
  | 2, _ => by simp [le4]
  | 3, _ => by simp [le4]; omega
  | k + 4, h => by omega

theorem splice_snoc (L : List Int) (p : Nat) (M : List Int) (x : Int) (h : p + M.length < L.length) : (splice L p M).set (p + M.length) x = splice L p (M ++ [x]) := by
  unfold splice
  rw [List.set_append_right _ _ (by rw [List.length_take]; omega), List.length_take, Nat.min_eq_left (by omega), Nat.add_sub_cancel_left, List.set_append_right _ _ (Nat.le_refl _), Nat.sub_self,
    List.drop_eq_getElem_cons h, List.set_cons_zero, List.length_append, List.append_assoc]
  rfl

theorem splice_len (L : List Int) (p : Nat) (M : List Int) (h : p + M.length ≤ L.length) : (splice L p M).length = L.length := length_splice L p M h

theorem refAt_put {w x : World} {q : Nat} {L L' : List Int} (h : RefAt w (some ⟨q, 0, none⟩) L) (hq : x.heap[q]? = some (.cells (u8s L').toArray 5 (0, 0))) (hb : IsBytes L') (hl : L'.length = L.length) : RefAt x (some ⟨q, 0, none⟩) L' :=
  ⟨.inr ⟨q, rfl, hq⟩, hb, by rw [hl]; exact h.2.2⟩

set_option maxHeartbeats 400000 in
theorem ffill_no {w : World} {a : Option Addr} {L : List Int} (h : RefAt w a L) (i : Nat) (hi : i < 4294967296) {src : Option Addr} {c m : Nat} (hm : m ≤ 9223372036854775807) (hno : L.length < i + m) :
    Calls Try.prog 25 #[.agg #[.slice a L.length L.length], .int .u32 i, .slice src m c] w (FPost a L false w) := by
  have hl := h.2.2
  have HF := Lib.hid (f_no h)
  clear h
  by_cases h4 : L.length < i
  · have hli : (L.length : Int) < (i : Int) := by omega
    clear hno h4
    go_enter Try.func25, Try.ntmps25
    go_wp2_with fail
    go_ret
    exact HF.out _
  · have hli : ¬ ((L.length : Int) < (i : Int)) := by omega
    have hlm : (L.length : Int) - (i : Int) < (m : Int) := by omega
    clear hno h4
    go_enter Try.func25, Try.ntmps25
    go_wp2_with fail
    go_ret
    exact HF.out _

theorem take_snoc {M : List Int} {j : Nat} (h : j < M.length) : M.take (j + 1) = M.take j ++ [M.getD j 0] := by
  rw [List.take_add_one, List.getElem?_eq_getElem h]
  simp [List.getD, List.getElem?_eq_getElem h]

set_option maxRecDepth 100000 in
set_option maxHeartbeats 2000000 in
theorem ffill_yes {w : World} {a : Option Addr} {L : List Int} (h : RefAt w a L) (i : Nat) {src : Option Addr} {c : Nat} {M : List Int} (hM : Row w src c M) (hsrc : ∀ b q, src = some b → a = some q → b.block ≠ q.block) (hyes : i + M.length ≤ L.length) :
    Calls Try.prog 25 #[.agg #[.slice a L.length L.length], .int .u32 i, .slice src M.length c] w (FPost a (splice L i M) true w) := by
  have hl := h.2.2
  have hli : ¬ ((L.length : Int) < (i : Int)) := by omega
  have hlm : ¬ ((L.length : Int) - (i : Int) < (M.length : Int)) := by omega
  have HI := Lib.hid (And.intro h (And.intro hM hsrc))
  clear h hM hsrc
  go_enter Try.func25, Try.ntmps25
  go_wp2_with fail
  go_loopw [7] (fun kv wr => ∃ (j : Nat), kv = .int .i64 j ∧ j ≤ M.length ∧ wr.cell? ⟨w.heap.size, 0, none⟩ = some (.slice a L.length L.length) ∧ RefAt wr a (splice L i (M.take j)) ∧ Row wr src c M ∧ ∃ l, (∀ k ∈ l, ∃ q, a = some ⟨k, q, none⟩) ∧ Keep l w wr) (fun kv _ => M.length - (intOf kv).toNat)
  case atStart => exact ⟨0, rfl, by omega, cell_of (heap_alloc_same w _) 0 rfl, by simpa [splice_nil] using HI.out.1.keep0 ((Keep.refl _ _).alloc _), HI.out.2.1.keep0 ((Keep.refl _ _).alloc _), [], by simp, (Keep.refl _ _).alloc _⟩
  case round =>
    obtain ⟨j, rfl, hj, hcb, hA, hR, l, hla, hK⟩ := hrel
    by_cases hlt : j < M.length
    · have hlen : i + (M.take j).length ≤ L.length := by rw [List.length_take]; omega
      have hls := splice_len L i _ hlen
      obtain ⟨q, rfl, hqj⟩ := hA.some_of (by rw [hls]; omega)
      obtain ⟨b, off, rfl⟩ := hR.some_of (by omega)
      have hbq : b ≠ q := HI.out.2.2 _ _ rfl rfl
      have hqw : q < w.heap.size := by
        obtain ⟨q', e, hq'⟩ := HI.out.1.some_of (by omega)
        cases e
        exact lt_of_heap hq'
      have hsc : wr.cell? ⟨b, off + j, none⟩ = some (.int .u8 (M.getD j 0)) := by
        rcases hR.at' with ⟨hh, _⟩ | ⟨rfl, _⟩ | ⟨b', off', e, hc⟩
        · cases hh
        · simp at hlt
        · cases e; exact hc j hlt
      have hx : 0 ≤ M.getD j 0 ∧ M.getD j 0 < 256 := hR.bytes _ (by simp [List.getD, List.getElem?_eq_getElem hlt])
      have hc := u8_cell hqj (j := i + j) (by rw [hls]; omega)
      have hfz := frozen_of hqj (i + j)
      have hd : Keep [q] wr wr.drew := (Keep.refl _ _).drew
      have hqd : wr.drew.heap[q]? = some (.cells (u8s (splice L i (M.take j))).toArray 5 (0, 0)) := hqj
      have hstep := u8_set hqd (i + j) (M.getD j 0)
      have hsn := splice_snoc L i (M.take j) (M.getD j 0) (by rw [List.length_take]; omega)
      rw [List.length_take, Nat.min_eq_left (by omega)] at hsn
      rw [hsn, ← take_snoc hlt] at hstep
      have hc' : wr.drew.cell? ⟨q, i + j, none⟩ = some (.int .u8 ((splice L i (M.take j)).getD (i + j) 0)) := hc
      have hfz' : wr.drew.frozen? ⟨q, i + j, none⟩ = false := hfz
      have hcb' : wr.drew.cell? ⟨w.heap.size, 0, none⟩ = some (.slice (some ⟨q, 0, none⟩) L.length L.length) := hcb
      have hR' : Row wr.drew (some ⟨b, off, none⟩) c M := hR.keep0 ((Keep.refl _ _).drew)
      have hA' : RefAt wr.drew (some ⟨q, 0, none⟩) (splice L i (M.take j)) := hA.keep0 ((Keep.refl _ _).drew)
      have hbytes : IsBytes (splice L i (M.take (j + 1))) := splice_bytes HI.out.1.2.1 (fun x hx => hR.bytes x (List.mem_of_mem_take hx))
      have hlen2 : (splice L i (M.take (j + 1))).length = (splice L i (M.take j)).length := by rw [hls, splice_len]; rw [List.length_take]; omega
      have hij : ((i + j : Nat) : Int) < (L.length : Int) := by omega
      have hij0 : IntKind.i64.wrap (i : Int) = (i : Int) := IntWalk.i64_in _ (by omega)
      have hij2 : IntKind.i64.wrap ((i : Int) + (j : Int)) = ((i + j : Nat) : Int) := by rw [IntWalk.i64_in _ (by omega)]; omega
      have hjm : (j : Int) < (M.length : Int) := by omega
      have hsc' : wr.drew.cell? ⟨b, off + j, none⟩ = some (.int .u8 (M.getD j 0)) := hsc
      generalize hwd : wr.drew = wd at hstep hc' hfz' hcb' hR' hA' hsc'
      have Hwd := Lib.hid hwd
      generalize hije : i + j = ij at *
      have Hij := Lib.hid hije
      clear hije
      have HS := Lib.hid (And.intro hstep (And.intro (refAt_put hA' hstep hbytes hlen2) (And.intro (hR'.keep ((Keep.refl [q] wd).setCell (p := ⟨q, ij, none⟩) (.inl (by simp)) (.int .u8 (M.getD j 0))) (by simp only [Option.some.injEq, forall_eq']; simpa using hbq)) (And.intro hla hK))))
      generalize M.getD j 0 = x at *
      clear hstep hsn hls hlen hqj hK hA hR hA' hR' hbytes hlen2 hqd hd hla
      go_wp2_with fail
      go_still_tail 11, (by kernel_rfl)
      change wpList _ _ _ _ _ wr.drew
      rw [Hwd.out]
      go_wp2
      go_roundw
      case rel => exact ⟨j + 1, by go_num, by omega, by rw [World.cell?_setCell_other _ _ _ _ (by simp)]; exact hcb', HS.out.2.1, HS.out.2.2.1, q :: l, by intro k hk; rcases List.mem_cons.1 hk with rfl | hk; exact ⟨0, rfl⟩; exact HS.out.2.2.2.1 k hk, ((HS.out.2.2.2.2.drew.weaken (l' := q :: l) (fun k hk _ => by simp [hk])).then (by rw [Hwd.out]; exact (Keep.refl [q] wd).setCell (.inl (by simp)) _) (by simp))⟩
      case measure => simp [intOf]; omega
    · obtain rfl : j = M.length := by omega
      have HF : Hid (FPost a (splice L i M) true w (.returned (.bool true)) wr) := Lib.hid ⟨rfl, by simpa using hA, l, hla, hK⟩
      clear hA hR hla hK
      go_wp2_with fail
      go_ret
      exact HF.out
end Go.Proofs.Ytnpnedimgfbnhaa
