/- Contracts of the functions that the law reaches, walked, and the plain laws on them (several texts in one). -/
import Derived.Test.YtgeakpeaohggoaaM15

/- Devices: the memory that the statements make, and the document's. -/
namespace Go.Proofs.Ytgeakpeaohggoaa
open Go.RowKit Go.Mum
set_option linter.unusedVariables false
set_option linter.unusedSimpArgs false
set_option maxRecDepth 100000

def memB (i : Nat) : Int := ((i * 7 % 256 : Nat) : Int)
/-- The bytes behind k rounds. -/
def memP (k : Nat) : List Int := (List.range k).map memB ++ List.replicate (320 - k) 0
def memL : List Int := memP 320

theorem memP_length {k : Nat} (hk : k ≤ 320) : (memP k).length = 320 := by simp [memP]; omega

theorem memP_set {k : Nat} (hk : k < 320) : (memP k).set k (memB k) = memP (k + 1) := by
  unfold memP
  rw [List.set_append_right _ _ (by simp), List.range_succ, List.map_append, List.append_assoc]
  congr 1
  simp only [List.length_map, List.length_range, Nat.sub_self]
  rw [show 320 - k = (320 - (k + 1)) + 1 by omega, List.replicate_succ]
  rfl

theorem memB_byte (k : Nat) : 0 ≤ memB k ∧ memB k < 256 := by unfold memB; omega

/-- What memory leaves. -/
def MemPost (w : World) (e : Ending) (w' : World) : Prop :=
  ∃ r fb g q, w.heap.size ≤ r ∧ w.heap.size ≤ fb ∧ w.heap.size ≤ g ∧ w.heap.size ≤ q ∧ e = .returned (.tuple #[.pointer (some ⟨r, 0, none⟩), .agg #[.slice (some ⟨q, 0, none⟩) 320 320]]) ∧ Both w' r fb g q 5 memL ∧ Keep [] w w'

set_option maxHeartbeats 4000000 in
theorem memory_at (w : World) : Calls Try.prog 21 #[] w (MemPost w) := by
  obtain ⟨b0, hb0⟩ : ∃ b, b = w.heap.size := ⟨_, rfl⟩
  go_enter Try.func21, Try.ntmps21
  go_wp2_with fail
  refine (rnew_good 5 _ (by omega) (by omega)).mono ?_
  rintro e y ⟨r, fb, g, hr, hfb, hg, rfl, hA, hK⟩
  have h0 : y.heap[b0]? = some (.cells #[.slice none 0 0] 55 (0, 0)) := hK.heap (heap_alloc_at _ hb0) (by simp)
  have HY := Lib.hid (And.intro hA (And.intro hK (And.intro hr (And.intro hfb (And.intro hg h0)))))
  clear hA hK hr hfb hg h0
  go_wp2_with fail
  refine (fnew_at 5 _ (by omega)).mono ?_
  rintro e x ⟨rfl, hR, hKx⟩
  obtain ⟨q, hq⟩ : ∃ q, q = y.heap.size + 1 := ⟨_, rfl⟩
  rw [← hq] at hR ⊢
  simp only [Nat.reduceMul] at hR ⊢
  have HB : Hid (Both x r fb g q 5 (memP 0) ∧ y.heap.size ≤ q) := Lib.hid (by
    obtain ⟨hA, hK, hr, hfb, hg, -⟩ := HY.out
    have hlt := hA.lt
    obtain ⟨q', e, hq'⟩ := hR.some_of (by simp)
    cases e
    have e0 : memP 0 = List.replicate 320 0 := by simp [memP]
    rw [e0]
    exact ⟨⟨hA.keep0 hKx, hR, by simp, ⟨by omega, by omega, by omega⟩, ⟨by omega, by omega⟩, hq'⟩, by omega⟩)
  have HX := Lib.hid (And.intro hKx (hKx.heap HY.out.2.2.2.2.2 (by simp)))
  have hxs := hKx.size
  clear hR hKx hq
  go_wp2_with fail
  obtain ⟨b4, hb4⟩ : ∃ b, b = x.heap.size := ⟨_, rfl⟩
  rw [← hb0, ← hb4]
  generalize hz : World.alloc x _ = z
  have HZ : Hid (Keep [] x z ∧ z.heap[b4]? = some (.cells #[.slice (some ⟨q, 0, none⟩) 320 320] 55 (0, 0))) := Lib.hid (by subst hz; exact ⟨(Keep.refl _ _).alloc _, heap_alloc_at _ hb4⟩)
  have HW0 := Lib.hid (And.intro hb0 hb4)
  clear hz hb0 hb4
  go_loopw [5, 14, 15, 16, 17, 18, 19, 20, 21, 22, 23, 24, 25, 26, 27, 28, 29, 30, 31] (fun i _ _ _ _ _ _ _ _ _ _ _ _ _ _ _ _ _ _ wr => ∃ k : Nat, i = .int .i64 k ∧ k ≤ 320 ∧ Hid (Both wr r fb g q 5 (memP k) ∧ Keep [g, q] z wr)) (fun i _ _ _ _ _ _ _ _ _ _ _ _ _ _ _ _ _ _ _ => 320 - (intOf i).toNat)
  case atStart => exact ⟨0, rfl, by omega, Lib.hid ⟨HB.out.1.keep0 HZ.out.1, Keep.refl _ _⟩⟩
  case round =>
    obtain ⟨k, rfl, hk, HK⟩ := hrel
    have hgq : g < x.heap.size ∧ q < x.heap.size := ⟨HB.out.1.lt.2.2.1, HB.out.1.lt.2.2.2⟩
    have h4ne : b4 ≠ g ∧ b4 ≠ q := by have := HW0.out.2; omega
    have h4 : wr.heap[b4]? = some (.cells #[.slice (some ⟨q, 0, none⟩) 320 320] 55 (0, 0)) := HK.out.2.heap HZ.out.2 (by simpa using h4ne)
    have c4 : wr.cell? ⟨b4, 0, none⟩ = some (.slice (some ⟨q, 0, none⟩) 320 320) := cell_of h4 0 rfl
    by_cases hk3 : k < 320
    · have t1 : decide ((k : Int) < 320) = true := decide_eq_true (by omega)
      have w1 : IntKind.u32.wrap (k : Int) = (k : Int) := by rw [IntKind.wrap_u32]; omega
      have w2 : IntKind.i64.wrap ((k : Int) * 7) = (k : Int) * 7 := by rw [IntKind.wrap_i64]; omega
      have w3 : IntKind.u8.wrap ((k : Int) * 7) = memB k := by rw [IntKind.wrap_u8]; unfold memB; omega
      have hyes : layB 5 k [memB k].length 1 = true := layB_yes (by simp; omega)
      have hl := memP_length hk
      have hlaid : laid 5 (memP k) k [memB k] 1 = memP (k + 1) := by
        unfold laid
        rw [if_pos hyes, splice_one _ _ _ (by omega), memP_set hk3]
      have hbB := memB_byte k
      have HL := Lib.hid hlaid
      have HYE := Lib.hid hyes
      clear hlaid hyes
      generalize memB k = zb at *
      go_wp2_with fail
      refine (bsetbyte_r HK.out.1 k (by omega) zb hbB).mono ?_
      rintro e x1 ⟨rfl, hr1, hk1⟩
      rw [HL.out] at hr1
      have hne := HB.out.1.qs
      have hqd : x1.heap[q]? = some (.cells (u8s (memP k)).toArray 5 (0, 0)) := hk1.heap HK.out.1.qd (by simpa using hne.2.2)
      have hN : RefN x1 q 5 (memP k) := ⟨HK.out.1.ref.keep hk1 (by simpa using hne.2.2), by rw [hl]⟩
      have c4' : x1.cell? ⟨b4, 0, none⟩ = some (.slice (some ⟨q, 0, none⟩) 320 320) := hk1.cell c4 (by simpa using h4ne.1)
      have H1 := Lib.hid (And.intro hr1 (And.intro hk1 (And.intro hqd hN)))
      clear hr1 hk1 hqd hN
      go_wp2_with fail
      have C2 := bsetbyte_d H1.out.2.2.2 k (by omega) zb hbB
      simp only [Nat.reduceMul] at C2
      refine C2.mono ?_
      rintro e x2 ⟨rfl, hf2, hk2⟩
      rw [HL.out] at hf2
      have HF : Hid (Both x2 r fb g q 5 (memP (k + 1)) ∧ Keep [g, q] z x2) := Lib.hid (by
        obtain ⟨hr1, hk1, hqd, hN⟩ := H1.out
        obtain ⟨q', e, hq2⟩ := hf2.some_of (by rw [memP_length (by omega)]; omega)
        cases e
        refine ⟨HK.out.1.set (by rw [memP_length (by omega), hl]) (hr1.keep hk2 (by simp; exact fun h => hne.1 h.symm) (by simp; exact fun h => hne.2.1 h.symm) (by simp; exact fun h => hne.2.2 h.symm)) hq2, ?_⟩
        exact (HK.out.2.trans (hk1.weaken (fun j hj _ => by simp at hj; simp [hj]))).trans (hk2.weaken (fun j hj _ => by simp at hj; simp [hj])))
      clear hf2 hk2 C2
      go_wp2_with fail
      go_roundw
      case rel => exact ⟨k + 1, by go_num, by omega, HF⟩
      case measure => simp [intOf]; omega
    · obtain rfl : 320 = k := by omega
      have t1 : decide (((320 : Nat) : Int) < 320) = false := rfl
      have hfr := frozen_of (HK.out.2.heap (HZ.out.1.heap HX.out.2 (by simp)) (by
        have := HW0.out.1; have h1 := HY.out.2.1.size; obtain ⟨_, _, _, _, hg', _⟩ := HY.out; have h2 := HB.out.2; simp at h1 hg'; simp; omega))
      have c0 : wr.cell? ⟨b0, 0, none⟩ = some (.slice none 0 0) := cell_of (HK.out.2.heap (HZ.out.1.heap HX.out.2 (by simp)) (by
        have := HW0.out.1; have h1 := HY.out.2.1.size; obtain ⟨_, _, _, _, hg', _⟩ := HY.out; have h2 := HB.out.2; simp at h1 hg'; simp; omega)) 0 rfl
      have HF : Hid (MemPost w (.returned (.tuple #[.pointer (some ⟨r, 0, none⟩), .agg #[.slice (some ⟨q, 0, none⟩) 320 320]])) (wr.setCell ⟨b0, 0, none⟩ (.slice (some ⟨q, 0, none⟩) 320 320)).drew) := Lib.hid (by
        obtain ⟨hA, hK, hr, hfb, hg, -⟩ := HY.out
        have hw0 := HW0.out.1
        have h1 := hK.size
        have h2 := HB.out.2
        simp at h1 hr hfb hg
        have kb : Keep [b0] wr (wr.setCell ⟨b0, 0, none⟩ (.slice (some ⟨q, 0, none⟩) 320 320)).drew := ((Keep.refl _ _).setCell (.inl (by simp)) _).drew
        refine ⟨r, fb, g, q, by omega, by omega, by omega, by omega, rfl, HK.out.1.keep kb (by simp; omega) (by simp; omega) (by simp; omega) (by simp; omega), ?_⟩
        have k1 : Keep [] w z := ((((Keep.refl [] w).alloc _).trans hK).trans HX.out.1).trans HZ.out.1
        exact (k1.then HK.out.2 (fun j hj hlt => by simp at hj; omega)).then kb (fun j hj hlt => by simp at hj; omega))
      go_wp2_with fail
      go_region
      go_wp2_with fail
      exact bodyPost_ret (v := .tuple #[.pointer (some ⟨r, 0, none⟩), .agg #[.slice (some ⟨q, 0, none⟩) 320 320]]) (by simp [results, Try.results21, go_sem, World.cell?_setCell_same, c0]) rfl HF.out

end Go.Proofs.Ytgeakpeaohggoaa
