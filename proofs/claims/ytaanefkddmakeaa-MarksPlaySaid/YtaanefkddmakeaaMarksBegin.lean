/- The laws MarksBegin and MarksNone, walked. -/
import Derived.Test.YtaanefkddmakeaaMarksApart
import Derived.Test.YtaanefkddmakeaaMarksList
namespace Go.Proofs.Ytaanefkddmakeaa
open Go.RowKit Go.Mum

theorem keep_of_below {w x : World} (h : Below w.heap.size w x) : Keep [] w x := ⟨h.os, h.tape, h.output, h.size, fun k hk _ => h.block k hk⟩

/-- A list of numbers in new memory. -/
def ListAt (B : Nat) (w : World) (a : Option Addr) (l : List Int) : Prop :=
  l = [] ∨ ∃ g, a = some ⟨g, 0, none⟩ ∧ B ≤ g ∧ g < w.heap.size ∧ ∀ j (hj : j < l.length), w.cell? ⟨g, j, none⟩ = some (.int .i64 l[j])

def ListIs (l : List Int) (w : World) (e : Ending) (w' : World) : Prop :=
  ∃ a cap, e = .returned (.slice a l.length cap) ∧ ListAt w.heap.size w' a l ∧ Keep [] w w'

theorem listIs_of {l : List Int} {w : World} {e : Ending} {w' : World} (h : ListPost l w e w') : ListIs l w e w' := by
  obtain ⟨v, rfl, hown, hb⟩ := h
  rcases hown.2 with ⟨rfl, hl⟩ | ⟨g, cap, cur, rfl, hg, hh, hn, _, hsz, htake⟩
  · have : l = [] := List.eq_nil_of_length_eq_zero hl
    subst this
    exact ⟨none, 0, rfl, .inl rfl, keep_of_below hb⟩
  · refine ⟨_, cap, rfl, .inr ⟨g, rfl, hg, lt_of_heap hh, fun j hj => ?_⟩, keep_of_below hb⟩
    refine cell_of hh j ?_
    have := congrArg (fun q => q[j]?) htake
    simpa [List.getElem?_take, hj] using this

theorem mlist {v : Value} {k : Int} {N : Nat} {s : List Int} {w : World} (h : Listed w v k N s) :
    Calls Try.prog 23 #[v, .int .i64 k] w (ListIs (kept N s) w) := (mlist_any v k N s w h).mono fun _ _ => listIs_of

theorem MarksAt.listed {w : World} {b m1 m2 : Nat} {N : Nat} {s1 s2 : List Int} (h : MarksAt w b m1 m2 N s1 s2) (hN : N ≤ 64) (k : Int) : Listed w (.pointer (some ⟨b, 0, none⟩)) k N (sel k s1 s2) := by
  refine ⟨hN, some m1, some m2, h.sets, holds_sel (.inr ⟨m1, rfl, h.one⟩) (.inr ⟨m2, rfl, h.two⟩) k, ?_, fun m _ => ⟨b, rfl, h.cells.1⟩⟩
  intro m hm
  unfold selM at hm
  split at hm
  · cases hm; exact h.one.lt
  · split at hm
    · cases hm; exact h.two.lt
    · cases hm

set_option maxRecDepth 100000 in
set_option maxHeartbeats 2000000 in
theorem MarksBegin_walk (a0 : Int) (a1 : Int) (w : World) (w0 : (Lit.int .i64 a0).wf = true) (w1 : (Lit.int .i64 a1).wf = true) :
    Calls Try.prog 6 #[.int .i64 a0, .int .i64 a1] w fun e w' => e = .returned (.bool true) ∧ Below w.heap.size w w' := by
  have b0 := wf_i64 w0
  have b1 := wf_i64 w1
  clear w0 w1
  by_cases h : a0 < 1 ∨ 64 < a0
  · by_cases h1 : a0 < 1
    · go_enter Try.func6, Try.ntmps6
      go_wp2_with (first | (go_at_call 11; refine (mnew_bad a0 _ h).mono ?_; rintro e w' ⟨rfl, rfl⟩) | (go_at_call 16; refine (mworks _).mono ?_; rintro e w' ⟨rfl, hK⟩))
      go_ret
      exact ⟨rfl, (by assumption : Keep [] w _).below (Nat.le_refl _) (by simp)⟩
    · have h2 : 64 < a0 := by omega
      go_enter Try.func6, Try.ntmps6
      go_wp2_with (first | (go_at_call 11; refine (mnew_bad a0 _ h).mono ?_; rintro e w' ⟨rfl, rfl⟩) | (go_at_call 16; refine (mworks _).mono ?_; rintro e w' ⟨rfl, hK⟩))
      go_ret
      exact ⟨rfl, (by assumption : Keep [] w _).below (Nat.le_refl _) (by simp)⟩
  · obtain ⟨N, rfl⟩ : ∃ N : Nat, a0 = N := ⟨a0.toNat, by omega⟩
    have h1 : (1 : Int) ≤ (N : Int) := by omega
    have h2 : (N : Int) ≤ 64 := by omega
    have h3 : N ≤ 64 := by omega
    clear h b0
    go_enter Try.func6, Try.ntmps6
    go_wp2_with fail
    refine (mnew_good N _ h1 h2).mono ?_
    rintro e w1 ⟨b, m1, m2, hb, hm1, hm2, rfl, hM, hK⟩
    have HM := Lib.hid hM
    have HK := Lib.hid hK
    have HB := Lib.hid (And.intro hb (And.intro hm1 hm2))
    clear hM hK hb hm1 hm2
    go_wp2_with fail
    refine (mwatched_any HM.out.sets (.inr ⟨m1, rfl, HM.out.one⟩) (.inr ⟨m2, rfl, HM.out.two⟩) a1).mono ?_
    rintro e w2 ⟨rfl, rfl⟩
    simp only [List.not_mem_nil, decide_false, Bool.or_self]
    go_wp2_with fail
    refine (mlist (HM.out.listed h3 1)).mono ?_
    rintro e w3 ⟨p3, cap3, rfl, -, hK3⟩
    rw [sel_one, kept_nil]
    simp only [List.length_nil]
    have HM3 : Hid (MarksAt w3 b m1 m2 N [] []) := Lib.hid (HM.out.keep hK3 (by simp) (by simp) (by simp))
    have HK3 : Hid (Keep [] w w3) := Lib.hid (HK.out.then hK3 (by simp))
    clear hK3 HM HK
    go_wp2_with fail
    refine (mlist (HM3.out.listed h3 2)).mono ?_
    rintro e w4 ⟨p4, cap4, rfl, -, hK4⟩
    rw [sel_two, kept_nil]
    simp only [List.length_nil]
    have HM4 : Hid (MarksAt w4 b m1 m2 N [] []) := Lib.hid (HM3.out.keep hK4 (by simp) (by simp) (by simp))
    have HK4 : Hid (Keep [] w w4) := Lib.hid (HK3.out.then hK4 (by simp))
    clear hK4 HM3 HK3
    go_wp2_with fail
    refine (mmark_any HM4.out a1 1).mono ?_
    rintro e w5 ⟨rfl, -, hK5⟩
    have HK5 : Hid (Keep [] w w5) := Lib.hid (HK4.out.then hK5 (by simp; have := HB.out; omega))
    clear hK5 HK4 HM4
    by_cases g1 : 0 ≤ a1
    · by_cases g2 : a1 < (N : Int)
      · have hf : decide (fits N a1 1) = true := decide_eq_true ⟨.inl rfl, g1, g2⟩
        simp only [hf, List.not_mem_nil, decide_false, Bool.not_false, Bool.and_true]
        go_wp2_with (go_at_call 16; refine (mworks _).mono ?_; rintro e w' ⟨rfl, hK'⟩)
        go_ret
        exact ⟨rfl, (HK5.out.then hK' (by simp)).below (Nat.le_refl _) (by simp)⟩
      · have hf : decide (fits N a1 1) = false := decide_eq_false fun h => g2 h.2.2
        simp only [hf, Bool.false_and]
        go_wp2_with (go_at_call 16; refine (mworks _).mono ?_; rintro e w' ⟨rfl, hK'⟩)
        go_ret
        exact ⟨rfl, (HK5.out.then hK' (by simp)).below (Nat.le_refl _) (by simp)⟩
    · have hf : decide (fits N a1 1) = false := decide_eq_false fun h => g1 h.2.1
      simp only [hf, Bool.false_and]
      go_wp2_with (go_at_call 16; refine (mworks _).mono ?_; rintro e w' ⟨rfl, hK'⟩)
      go_ret
      exact ⟨rfl, (HK5.out.then hK' (by simp)).below (Nat.le_refl _) (by simp)⟩

/-! Marks that are not there, or that no call made. -/

theorem selM_none (k : Int) : selM k none none = none := by unfold selM; split <;> (try split) <;> rfl

set_option maxHeartbeats 400000 in
theorem mdrop_none {v : Value} {w : World} (h : Sets w v none none) (f k : Int) :
    Calls Try.prog 14 #[v, .int .i64 f, .int .i64 k] w fun e w' => e = .returned (.tuple #[]) ∧ w = w' := by
  have C := Lib.hid (mset_any h k)
  rw [selM_none] at C
  have hd := fun ty => delete_nil (ty := ty) f w
  clear h
  go_enter Try.func14, Try.ntmps14
  go_wp2_with fail
  refine C.out.mono ?_
  rintro e w' ⟨rfl, rfl⟩
  go_wp2_with fail
  go_end0
  exact ⟨rfl, rfl⟩

set_option maxHeartbeats 400000 in
theorem mclear_none {v : Value} {w : World} (h : Sets w v none none) (k : Int) :
    Calls Try.prog 15 #[v, .int .i64 k] w fun e w' => e = .returned (.tuple #[]) ∧ w = w' := by
  have C := Lib.hid (mset_any h k)
  rw [selM_none] at C
  have hd := fun ty => clear_nil (ty := ty) w
  clear h
  go_enter Try.func15, Try.ntmps15
  go_wp2_with fail
  refine C.out.mono ?_
  rintro e w' ⟨rfl, rfl⟩
  go_wp2_with fail
  go_end0
  exact ⟨rfl, rfl⟩

theorem Sets.keep {v : Value} {v1 v2 : Option Nat} {w x : World} (h : Sets w v v1 v2) (hk : Keep [] w x) : Sets x v v1 v2 := by
  rcases h with h | ⟨b, rfl, h1, h2⟩
  · exact .inl h
  · exact .inr ⟨b, rfl, hk.cell h1 (by simp), hk.cell h2 (by simp)⟩

set_option maxRecDepth 100000 in
set_option maxHeartbeats 2000000 in
theorem MarksNone_walk (a0 : Int) (a1 : Int) (w : World) (_w0 : (Lit.int .i64 a0).wf = true) (_w1 : (Lit.int .i64 a1).wf = true) :
    Calls Try.prog 8 #[.int .i64 a0, .int .i64 a1] w fun e w' => e = .returned (.bool true) ∧ Below w.heap.size w w' := by
  clear _w0 _w1
  have HL : ∀ {v : Value} {x : World}, Sets x v none none → Calls Try.prog 23 #[v, .int .i64 a1] x (ListIs [] x) := fun {v x} h => by
    have : Listed x v a1 0 [] := ⟨by omega, none, none, h, by rw [selM_none]; exact .inl ⟨rfl, rfl⟩, by rw [selM_none]; simp, by rw [selM_none]; simp⟩
    exact mlist this
  have HE : sel a1 [] [] = [] := by unfold sel; split <;> (try split) <;> rfl
  have HHas : ∀ {v : Value} {x : World}, Sets x v none none → Calls Try.prog 13 #[v, .int .i64 a0, .int .i64 a1] x fun e w' => e = .returned (.bool false) ∧ x = w' := fun {v x} h => by
    have := mhas_any h (.inl ⟨rfl, rfl⟩) (.inl ⟨rfl, rfl⟩) a0 a1
    rw [HE] at this
    simpa using this
  have HWat : ∀ {v : Value} {x : World}, Sets x v none none → Calls Try.prog 22 #[v, .int .i64 a0] x fun e w' => e = .returned (.bool false) ∧ x = w' := fun {v x} h => by
    have := mwatched_any h (.inl ⟨rfl, rfl⟩) (.inl ⟨rfl, rfl⟩) a0
    simpa using this
  have H := Lib.hid (And.intro @HL (And.intro @HHas @HWat))
  clear HL HE HHas HWat
  go_enter Try.func8, Try.ntmps8
  go_wp2_with fail
  generalize hx : World.alloc (World.alloc w _) _ = w1
  have hK : Keep [] w w1 := by rw [← hx]; exact ((Keep.refl _ _).alloc _).alloc _
  have d0 : w1.cell? ⟨w.heap.size + 1, 0, none⟩ = some (.pointer none) := by rw [← hx]; exact cell_of (heap_alloc_at _ (by simp)) 0 rfl
  have d1 : w1.cell? ⟨w.heap.size + 1, 1, none⟩ = some (.pointer (some ⟨w.heap.size, 0, none⟩)) := by rw [← hx]; exact cell_of (heap_alloc_at _ (by simp)) 1 rfl
  have d2 : w1.heap[w.heap.size]? = some (.cells #[.int .i64 0, .map none, .map none] 55) := by rw [← hx]; exact heap_alloc_other _ (heap_alloc_same w _)
  clear hx
  have n0 : Sets w1 (.pointer none) none none := .inl ⟨rfl, rfl, rfl⟩
  have n1 : Sets w1 (.pointer (some ⟨w.heap.size, 0, none⟩)) none none := .inr ⟨_, rfl, cell_of d2 1 rfl, cell_of d2 2 rfl⟩
  clear d2
  have hR : Keep [] w w1 ∧ w1.cell? ⟨w.heap.size + 1, 0, none⟩ = some (.pointer none) ∧ w1.cell? ⟨w.heap.size + 1, 1, none⟩ = some (.pointer (some ⟨w.heap.size, 0, none⟩)) ∧ Sets w1 (.pointer none) none none ∧ Sets w1 (.pointer (some ⟨w.heap.size, 0, none⟩)) none none := ⟨hK, d0, d1, n0, n1⟩
  clear hK d0 d1 n0 n1
  generalize hB : w.heap.size = B at hR
  have HB := Lib.hid hB
  clear hB
  go_loopw [7] (fun i wr => ∃ k : Nat, k ≤ 2 ∧ i = .int .i64 k ∧ Hid (Keep [] w wr ∧ wr.cell? ⟨B + 1, 0, none⟩ = some (.pointer none) ∧ wr.cell? ⟨B + 1, 1, none⟩ = some (.pointer (some ⟨B, 0, none⟩)) ∧ Sets wr (.pointer none) none none ∧ Sets wr (.pointer (some ⟨B, 0, none⟩)) none none)) (fun i _ => 2 - (intOf i).toNat)
  case atStart => exact ⟨0, by omega, rfl, Lib.hid hR⟩
  case round =>
    clear hR
    obtain ⟨k, hk, rfl, hR⟩ := hrel
    obtain ⟨d0, d1⟩ := And.intro hR.out.2.1 hR.out.2.2.1
    by_cases h2 : k < 2
    · obtain rfl | rfl : k = 0 ∨ k = 1 := by omega
      · have n0 := Lib.hid hR.out.2.2.2.1
        go_wp2_with (first | (go_at_call 14; refine (mdrop_none n0.out _ _).mono ?_; rintro e w' ⟨rfl, rfl⟩) | (go_at_call 15; refine (mclear_none n0.out _).mono ?_; rintro e w' ⟨rfl, rfl⟩) | (go_at_call 12; refine (mmark_no n0.out _ _ (.inl (selM_none _))).mono ?_; rintro e w' ⟨rfl, rfl⟩) | (go_at_call 13; refine (H.out.2.1 n0.out).mono ?_; rintro e w' ⟨rfl, rfl⟩) | (go_at_call 22; refine (H.out.2.2 n0.out).mono ?_; rintro e w' ⟨rfl, rfl⟩))
        refine (H.out.1 n0.out).mono ?_
        rintro e w3 ⟨p3, cap3, rfl, -, hK3⟩
        have hR3 := Lib.hid (And.intro (hR.out.1.then hK3 (by simp)) (And.intro (hK3.cell d0 (by simp)) (And.intro (hK3.cell d1 (by simp)) (And.intro (hR.out.2.2.2.1.keep hK3) (hR.out.2.2.2.2.keep hK3)))))
        simp only [List.length_nil]
        clear hK3 hR d0 d1 n0
        go_wp2_with fail
        go_roundw
        case rel => exact ⟨1, by omega, rfl, hR3⟩
        case measure => simp [intOf]
      · have n0 := Lib.hid hR.out.2.2.2.2
        go_wp2_with (first | (go_at_call 14; refine (mdrop_none n0.out _ _).mono ?_; rintro e w' ⟨rfl, rfl⟩) | (go_at_call 15; refine (mclear_none n0.out _).mono ?_; rintro e w' ⟨rfl, rfl⟩) | (go_at_call 12; refine (mmark_no n0.out _ _ (.inl (selM_none _))).mono ?_; rintro e w' ⟨rfl, rfl⟩) | (go_at_call 13; refine (H.out.2.1 n0.out).mono ?_; rintro e w' ⟨rfl, rfl⟩) | (go_at_call 22; refine (H.out.2.2 n0.out).mono ?_; rintro e w' ⟨rfl, rfl⟩))
        refine (H.out.1 n0.out).mono ?_
        rintro e w3 ⟨p3, cap3, rfl, -, hK3⟩
        have hR3 := Lib.hid (And.intro (hR.out.1.then hK3 (by simp)) (And.intro (hK3.cell d0 (by simp)) (And.intro (hK3.cell d1 (by simp)) (And.intro (hR.out.2.2.2.1.keep hK3) (hR.out.2.2.2.2.keep hK3)))))
        simp only [List.length_nil]
        clear hK3 hR d0 d1 n0
        go_wp2_with fail
        go_roundw
        case rel => exact ⟨2, by omega, rfl, hR3⟩
        case measure => simp [intOf]
    · go_wp2_with (go_at_call 16; refine (mworks _).mono ?_; rintro e w' ⟨rfl, hK'⟩)
      go_ret
      exact ⟨rfl, (hR.out.1.then hK' (by simp)).below (Nat.le_refl _) (by simp)⟩
end Go.Proofs.Ytaanefkddmakeaa
