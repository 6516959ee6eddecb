/- A memory copied. -/
import Derived.Test.YteoanahfbfflbaaRam4
import Derived.Outline
namespace Go.Proofs.Yteoanahfbfflbaa
open Go.RowKit Go.Mum

/-- All the bytes, frame behind frame. -/
def view (ks : List Nat) (L : List Int) : List Int := (List.range ks.length).flatMap (frameOf ks L)

theorem flat_length {f : Nat → List Int} {k : Nat} (h : ∀ j, j < k → (f j).length = 64) : ((List.range k).flatMap f).length = 64 * k := by
  induction k with
  | zero => rfl
  | succ k ih =>
    rw [List.range_succ, List.flatMap_append, List.length_append, ih (fun j hj => h j (by omega))]
    simp [h k (by omega)]
    omega

theorem flat_range (L : List Int) (n : Nat) : ∀ k, k ≤ n → (List.range k).flatMap (frameOf (List.range n) L) = L.take (64 * k) := by
  intro k
  induction k with
  | zero => intro _; simp
  | succ k ih =>
    intro hk
    rw [List.range_succ, List.flatMap_append, ih (by omega)]
    have e : frameOf (List.range n) L k = (L.drop (64 * k)).take 64 := by
      unfold frameOf
      simp [List.getD, List.getElem?_range (show k < n by omega)]
    simp only [List.flatMap_cons, List.flatMap_nil, List.append_nil, e]
    rw [show 64 * (k + 1) = 64 * k + 64 by omega, List.take_add]

theorem view_range {L : List Int} {n : Nat} (h : L.length = 64 * n) : view (List.range n) L = L := by
  unfold view
  rw [List.length_range, flat_range L n n (Nat.le_refl _), List.take_of_length_le (by omega)]

theorem pl_range {n a : Nat} (h : a < 64 * n) : pl (List.range n) a = a := by
  unfold pl
  simp [List.getD, List.getElem?_range (show a / 64 < n by omega)]
  omega

set_option maxHeartbeats 400000 in
theorem rcopy_none {w : World} {v : Value} (h : Sz w v 0) :
    Calls Try.prog 27 #[v] w fun e w' => e = .returned (.pointer none) ∧ w = w' := by
  have C := Lib.hid (rsize_any h)
  clear h
  go_enter Try.func27, Try.ntmps27
  go_wp2_with fail
  refine C.out.mono ?_
  rintro e w' ⟨rfl, rfl⟩
  go_wp2_with fail
  go_ret
  exact ⟨rfl, rfl⟩

/-- What Copy leaves. -/
def CopyPost (n : Nat) (L : List Int) (w : World) (e : Ending) (w' : World) : Prop :=
  ∃ r fb g, w.heap.size ≤ r ∧ w.heap.size ≤ fb ∧ w.heap.size ≤ g ∧ e = .returned (.pointer (some ⟨r, 0, none⟩)) ∧ RamAt w' r fb g (List.range n) L ∧ Keep [] w w'

set_option maxRecDepth 100000 in
set_option maxHeartbeats 4000000 in
theorem rcopy_at {w : World} {r fb g : Nat} {ks : List Nat} {L : List Int} (h : RamAt w r fb g ks L) :
    Calls Try.prog 27 #[.pointer (some ⟨r, 0, none⟩)] w (CopyPost ks.length (view ks L) w) := by
  have C := Lib.hid (rsize_any h.sz)
  have hs := h.size
  obtain ⟨cap, hc⟩ := h.hcell
  have H := Lib.hid h
  have hcap : ks.length ≤ cap := by
    obtain ⟨cap', e, hle, _⟩ := h.head
    have e2 := cell_of e 0 rfl
    rw [hc] at e2
    simp at e2
    omega
  clear h
  go_enter Try.func27, Try.ntmps27
  go_wp2_with fail
  refine C.out.mono ?_
  rintro e w' ⟨rfl, rfl⟩
  have hnz : ((64 * (ks.length : Int)) == 0) = false := beq_eq_false_iff_ne.2 (by omega)
  go_wp2_with fail
  refine (rnew_good ks.length w hs.1 hs.2).mono ?_
  rintro e y ⟨r2, fb2, g2, hr2, hfb2, hg2, rfl, hA2, hK2⟩
  have HY := Lib.hid (And.intro hA2 hK2)
  have hc2 := hK2.cell hc (by simp)
  have hgB := Lib.hid hg2
  clear hA2 hK2 hc hg2
  go_wp2_with fail
  go_loopw [5, 6, 24] (fun _ _ kv wr => ∃ k : Nat, kv = .int .i64 k ∧ k ≤ ks.length ∧ RamAt wr r2 fb2 g2 (List.range ks.length) ((List.range k).flatMap (frameOf ks L) ++ List.replicate (64 * (ks.length - k)) 0) ∧ Keep [] w wr) (fun _ _ kv _ => ks.length - (intOf kv).toNat)
  case atStart => exact ⟨0, rfl, by omega, by simpa using HY.out.1, HY.out.2⟩
  case round =>
    clear HY hc2
    obtain ⟨k, rfl, hk, hA, hK⟩ := hrel
    by_cases hlt : k < ks.length
    · have hA1 := H.out.keep0 hK
      have row1 := hA1.row hlt
      have hf := hA1.frame hlt
      obtain ⟨cap2, hc2⟩ := hA.hcell
      have row2 := hA.row (k := k) (by simpa using hlt)
      rw [List.length_range] at hc2
      have hd : (List.range ks.length).getD k 0 = k := by simp [List.getD, hlt]
      rw [hd] at row2
      have hl := flat_length (f := frameOf ks L) (k := k) (fun j hj => (hA1.frame (by omega)).2)
      have hsp : splice ((List.range k).flatMap (frameOf ks L) ++ List.replicate (64 * (ks.length - k)) 0) (64 * k) ((frameOf ks L k).take 64) = (List.range (k + 1)).flatMap (frameOf ks L) ++ List.replicate (64 * (ks.length - (k + 1))) 0 := by
        rw [List.take_of_length_le (by rw [hf.2]; exact Nat.le_refl _)]
        unfold splice
        rw [List.take_append_of_le_length (by omega), List.take_of_length_le (by omega), hf.2, List.drop_append, List.drop_eq_nil_of_le (by omega), List.nil_append, List.drop_replicate, hl, List.range_succ, List.flatMap_append]
        simp only [List.flatMap_cons, List.flatMap_nil, List.append_nil, List.append_assoc]
        rw [show 64 * (ks.length - k) - (64 * k + 64 - 64 * k) = 64 * (ks.length - (k + 1)) by omega]
      have hgne : r2 ≠ g2 ∧ fb2 ≠ g2 := ⟨hA.ne.2.1, hA.ne.2.2⟩
      have HQ := Lib.hid (And.intro hA (And.intro hK (And.intro hf hsp)))
      have hbx : IsBytes ((List.range (k + 1)).flatMap (frameOf ks L) ++ List.replicate (64 * (ks.length - (k + 1))) 0) := by
        refine isBytes_append ?_ (by intro x hx; rw [List.eq_of_mem_replicate hx]; omega)
        intro x hx
        rw [List.mem_flatMap] at hx
        obtain ⟨j, hj, hx⟩ := hx
        rw [List.mem_range] at hj
        exact (hA1.frame (k := j) (by omega)).1.bytes x hx
      have HB := Lib.hid hbx
      clear hbx
      have hfit : 64 * k + 64 ≤ ((List.range k).flatMap (frameOf ks L) ++ List.replicate (64 * (ks.length - k)) 0).length := by
        rw [List.length_append, hl, List.length_replicate]; omega
      have htl : Hid (64 = ((frameOf ks L k).take 64).length) := Lib.hid (by rw [List.length_take, hf.2]; rfl)
      clear hA1 hA hK hf hsp hl hd
      have hlx : Hid (((List.range (k + 1)).flatMap (frameOf ks L) ++ List.replicate (64 * (ks.length - (k + 1))) 0).length = ((List.range k).flatMap (frameOf ks L) ++ List.replicate (64 * (ks.length - k)) 0).length) := Lib.hid (by
        rw [← HQ.out.2.2.2, length_splice' _ _ _ (by have := HQ.out.2.2.1.2; rw [List.length_take]; omega)])
      generalize hX : (List.range k).flatMap (frameOf ks L) ++ List.replicate (64 * (ks.length - k)) 0 = X at HQ hfit hlx
      generalize ks.getD k 0 = f at *
      clear hX
      go_wp2_with (with_reducible refine wpList_copy_row rfl (.tmp 35) (.tmp 36) 30 30 rfl 5 Try.underlying30 info_u8s g2 (64 * k) 64 64 64 64 (some ⟨g, 64 * f, none⟩) rfl rfl (frameOf ks L k) HQ.out.2.2.1.2.symm HQ.out.2.2.1.1 X 5 HQ.out.1.data hfit 64 htl.out ?_; intro w2 hw2 hk2; have HZ := Lib.hid (And.intro hw2 hk2); clear hw2 hk2)
      go_roundw
      case rel => exact ⟨k + 1, by go_num, by omega, HQ.out.1.put HZ.out.2 (by rw [← HQ.out.2.2.2]; exact HZ.out.1) hlx.out HB.out, HQ.out.2.1.then HZ.out.2 (by have := HQ.out.1; intro b hb hlt; simp at hb; subst hb; exact absurd hlt (by have := hgB.out; omega))⟩
      case measure => simp [intOf]; omega
    · obtain rfl : k = ks.length := by omega
      have HF : Hid (CopyPost ks.length (view ks L) w (.returned (.pointer (some ⟨r2, 0, none⟩))) wr) := Lib.hid ⟨r2, fb2, g2, hr2, hfb2, hgB.out, rfl, by simpa [view] using hA, hK⟩
      clear hA hK
      go_wp2_with fail
      go_ret
      exact HF.out
end Go.Proofs.Yteoanahfbfflbaa
