/- The law MarksApart, walked; and that a frame is marked. -/
import Derived.Test.YtaanefkddmakeaaMarks1
import Derived.Test.YtaanefkddmakeaaFits
namespace Go.Proofs.Ytaanefkddmakeaa
open Go.RowKit Go.Mum

set_option maxHeartbeats 1000000 in
theorem mworks (w : World) :
    Calls Try.prog 16 #[] w fun e w' => e = .returned (.bool true) ∧ Keep [] w w' := by
  go_enter Try.func16, Try.ntmps16
  go_wp2_with fail
  refine (mnew_good 4 _ (by omega) (by omega)).mono ?_
  rintro e w1 ⟨b, m1, m2, hb, hm1, hm2, rfl, hM, hK⟩
  go_wp2_with fail
  refine (mmark_yes hM 2 1 (.inl rfl) (by omega) (by omega)).mono ?_
  rintro e w2 ⟨rfl, hM2, hK2⟩
  simp only [ins, if_true, List.not_mem_nil, if_false, List.nil_append, decide_false, Bool.not_false, Bool.and_true, if_neg (by decide : ¬ (1 : Int) = 2)] at hM2 ⊢
  go_wp2_with fail
  refine (mmark_yes hM2 2 2 (.inr rfl) (by omega) (by omega)).mono ?_
  rintro e w3 ⟨rfl, hM3, hK3⟩
  simp only [ins, if_true, List.not_mem_nil, if_false, List.nil_append, decide_false, Bool.not_false, Bool.and_true, if_neg (by decide : ¬ (2 : Int) = 1), List.mem_singleton, decide_true, Bool.not_true] at hM3 ⊢
  have HF : Hid (Keep [] w w3) := Lib.hid ((hK.then hK2 (by simp; omega)).then hK3 (by simp; omega))
  have HM := Lib.hid hM3
  clear hM hM2 hM3 hK hK2 hK3 hb hm1 hm2
  go_wp2_with fail
  refine (mhas_any HM.out.sets (.inr ⟨m1, rfl, HM.out.one⟩) (.inr ⟨m2, rfl, HM.out.two⟩) 2 1).mono ?_
  rintro e w4 ⟨rfl, rfl⟩
  simp only [sel_one, List.mem_singleton, decide_true]
  go_wp2_with fail
  go_ret
  exact ⟨rfl, HF.out⟩

/-- May a frame bear a mark of the kind? -/
def fits (n f k : Int) : Prop := (k = 1 ∨ k = 2) ∧ 0 ≤ f ∧ f < n
instance (n f k : Int) : Decidable (fits n f k) := by unfold fits; infer_instance

def mark1 (n f k : Int) (s1 : List Int) : List Int := if k = 1 ∧ fits n f k then ins f s1 else s1
def mark2 (n f k : Int) (s2 : List Int) : List Int := if k = 2 ∧ fits n f k then ins f s2 else s2

def MarkAny (f k : Int) (b m1 m2 : Nat) (n : Int) (s1 s2 : List Int) (w : World) (e : Ending) (w' : World) : Prop :=
  e = .returned (.bool (decide (fits n f k) && (! decide (f ∈ s1) && ! decide (f ∈ s2)))) ∧ MarksAt w' b m1 m2 n (mark1 n f k s1) (mark2 n f k s2) ∧ Keep [m1, m2] w w'

theorem mmark_any {w : World} {b m1 m2 : Nat} {n : Int} {s1 s2 : List Int} (h : MarksAt w b m1 m2 n s1 s2) (f k : Int) :
    Calls Try.prog 12 #[.pointer (some ⟨b, 0, none⟩), .int .i64 f, .int .i64 k] w (MarkAny f k b m1 m2 n s1 s2 w) := by
  by_cases hv : fits n f k
  · refine (mmark_yes h f k hv.1 hv.2.1 hv.2.2).mono ?_
    rintro e w' ⟨h1, h2, h3⟩
    refine ⟨by simpa [hv] using h1, ?_, h3⟩
    unfold mark1 mark2
    simpa [hv] using h2
  · have : Calls Try.prog 12 #[.pointer (some ⟨b, 0, none⟩), .int .i64 f, .int .i64 k] w fun e w' => e = .returned (.bool false) ∧ w = w' := by
      refine mmark_no h.sets f k ?_
      by_cases hk : k = 1 ∨ k = 2
      · exact .inr ⟨b, n, rfl, h.cells.1, by unfold fits at hv; omega⟩
      · left
        have h1 : k ≠ 1 := fun e => hk (.inl e)
        have h2 : k ≠ 2 := fun e => hk (.inr e)
        simp [selM, h1, h2]
    refine this.mono ?_
    rintro e w' ⟨h1, rfl⟩
    refine ⟨by simpa [hv] using h1, ?_, Keep.refl _ _⟩
    unfold mark1 mark2
    simpa [hv] using h

/-- A step as it lies in a box. -/
def stepObj (a : Int × Int × Int) : Obj := .cells #[.int .i64 a.1, .int .i64 a.2.1, .int .i64 a.2.2] 23

theorem stepObj_cells {w : World} {p : Nat} {a : Int × Int × Int} (h : w.heap[p]? = some (stepObj a)) :
    w.cell? ⟨p, 0, none⟩ = some (.int .i64 a.1) ∧ w.cell? ⟨p, 1, none⟩ = some (.int .i64 a.2.1) ∧ w.cell? ⟨p, 2, none⟩ = some (.int .i64 a.2.2) :=
  ⟨cell_of h 0 rfl, cell_of h 1 rfl, cell_of h 2 rfl⟩

theorem step_of {w : World} {B n : Nat} {c : Array Value} (h : Fits Try.prog w B n 23 c.toList) : ∃ a : Int × Int × Int, c = #[.int .i64 a.1, .int .i64 a.2.1, .int .i64 a.2.2] ∧
    (-9223372036854775808 ≤ a.1 ∧ a.1 ≤ 9223372036854775807) ∧ (-9223372036854775808 ≤ a.2.1 ∧ a.2.1 ≤ 9223372036854775807) ∧ (-9223372036854775808 ≤ a.2.2 ∧ a.2.2 ≤ 9223372036854775807) := by
  obtain ⟨m, hl, hf⟩ := h.struct Try.underlying23
  have c3 : Try.prog.cellsOf 3 = 1 := by kernel_rfl
  have cs : Try.prog.cellsOf 23 = 3 := by kernel_rfl
  obtain ⟨l⟩ := c
  rw [cs] at hl
  match l, hl with
  | [d0, d1, d2], _ =>
    obtain ⟨z0, e0, g0⟩ := (hf _ (.head _)).int Try.underlying3
    obtain ⟨z1, e1, g1⟩ := (hf _ (.tail _ (.head _))).int Try.underlying3
    obtain ⟨z2, e2, g2⟩ := (hf _ (.tail _ (.tail _ (.head _)))).int Try.underlying3
    simp [c3] at e0 e1 e2
    subst e0 e1 e2
    exact ⟨(z0, z1, z2), rfl, wf_i64 g0, wf_i64 g1, wf_i64 g2⟩

/-- What the second call leaves. -/
def after1 (n : Int) (b : Int × Int × Int) (s1 : List Int) : List Int :=
  if b.1 = 0 then mark1 n b.2.1 b.2.2 s1 else if b.1 = 1 then (if b.2.2 = 1 then s1.filter (· ≠ b.2.1) else s1) else if b.1 = 2 then (if b.2.2 = 1 then [] else s1) else s1
def after2 (n : Int) (b : Int × Int × Int) (s2 : List Int) : List Int :=
  if b.1 = 0 then mark2 n b.2.1 b.2.2 s2 else if b.1 = 1 then (if b.2.2 = 2 then s2.filter (· ≠ b.2.1) else s2) else if b.1 = 2 then (if b.2.2 = 2 then [] else s2) else s2

/-- One mark's turning turns no other. -/
theorem apart_law (n f k : Int) (b : Int × Int × Int) (s1 s2 : List Int) (h : k ≠ b.2.2 ∨ f ≠ b.2.1 ∧ b.1 ≠ 2) : f ∈ sel k (after1 n b s1) (after2 n b s2) ↔ f ∈ sel k s1 s2 := by
  unfold sel after1 after2 mark1 mark2
  by_cases k1 : k = 1
  · subst k1
    simp only [if_true]
    repeat' split
    all_goals simp_all [mem_ins, List.mem_filter]
  · by_cases k2 : k = 2
    · subst k2
      simp only [if_true, if_neg (by decide : ¬ (2 : Int) = 1)]
      repeat' split
      all_goals simp_all [mem_ins, List.mem_filter]
    · simp [k1, k2]

set_option maxRecDepth 100000 in
set_option maxHeartbeats 2000000 in
theorem MarksApart_walk (a0 : Int) (c1 : Array Value) (n1 : Nat) (c2 : Array Value) (n2 : Nat) (w : World) (w0 : (Lit.int .u8 a0).wf = true) (w1 : Fits Try.prog w maxLen n1 23 c1.toList) (w2 : Fits Try.prog w maxLen n2 23 c2.toList) :
    Calls Try.prog 3 #[.int .u8 a0, .agg c1, .agg c2] w fun e w' => e = .returned (.bool true) ∧ Below w.heap.size w w' := by
  obtain ⟨⟨ak, af, am⟩, rfl, _, _, _⟩ := step_of w1
  obtain ⟨⟨bk, bf, bm⟩, rfl, _, _, _⟩ := step_of w2
  have b0 := wf_u8 w0
  clear w0 w1 w2
  obtain ⟨n, hn⟩ : ∃ n : Int, n = 1 + a0 % 64 := ⟨_, rfl⟩
  have hn1 : 1 ≤ n := by omega
  have hn2 : n ≤ 64 := by omega
  have hb1 := b0.1
  have hb2 := b0.2
  have Hn := Lib.hid hn
  clear hn b0
  go_enter Try.func3, Try.ntmps3
  go_wp2_with fail
  rw [← Hn.out]
  generalize hx : World.alloc (World.alloc w _) _ = w1
  have p1 : w1.heap[w.heap.size]? = some (stepObj (ak, af, am)) := by rw [← hx]; exact heap_alloc_other _ (heap_alloc_same w _)
  have p2 : w1.heap[w.heap.size + 1]? = some (stepObj (bk, bf, bm)) := by rw [← hx]; exact heap_alloc_at _ (by simp)
  have hK1 : Keep [] w w1 := by rw [← hx]; exact ((Keep.refl _ _).alloc _).alloc _
  have hlt := lt_of_heap p2
  clear hx
  refine (mnew_good n _ hn1 hn2).mono ?_
  rintro e w2 ⟨b, m1, m2, hb, hm1, hm2, rfl, hM, hK2⟩
  have HB : Hid (w.heap.size + 1 < b ∧ w.heap.size + 1 < m1 ∧ w.heap.size + 1 < m2) := Lib.hid (by omega)
  have p1' := hK2.heap p1 (by simp)
  have p2' := hK2.heap p2 (by simp)
  have HK0 : Hid (Keep [] w w2) := Lib.hid (hK1.then hK2 (by simp))
  obtain ⟨q0, q1, q2⟩ := stepObj_cells p1'
  obtain ⟨r0, r1, r2⟩ := stepObj_cells p2'
  have HP2 := Lib.hid (And.intro p1' p2')
  have HM0 := Lib.hid hM
  clear p1 p2 hK1 hlt hb hm1 hm2 hM hK2 p1' p2'
  simp only at q0 q1 q2 r0 r1 r2
  go_wp2_with fail
  refine (mmark_any HM0.out af am).mono ?_
  rintro e w3 ⟨rfl, hM, hK3⟩
  have p1' := hK3.heap HP2.out.1 (by simp; have := HB.out; omega)
  have p2' := hK3.heap HP2.out.2 (by simp; have := HB.out; omega)
  have HP : Hid (w3.heap[w.heap.size]? = some (stepObj (ak, af, am)) ∧ w3.heap[w.heap.size + 1]? = some (stepObj (bk, bf, bm)) ∧ w.heap.size ∉ [m1, m2] ∧ w.heap.size + 1 ∉ [m1, m2]) := Lib.hid ⟨p1', p2', by simp; have := HB.out; omega, by simp; have := HB.out; omega⟩
  have HK : Hid (Keep [] w w3) := Lib.hid (HK0.out.then hK3 (by simp; have := HB.out; omega))
  have HM := Lib.hid hM
  clear q0 q1 q2 r0 r1 r2 hM hK3
  obtain ⟨q0, q1, q2⟩ := stepObj_cells p1'
  obtain ⟨r0, r1, r2⟩ := stepObj_cells p2'
  clear p1' p2' HP2 HM0 HK0
  simp only at q0 q1 q2 r0 r1 r2
  go_wp2_with fail
  refine (mhas_any HM.out.sets (.inr ⟨m1, rfl, HM.out.one⟩) (.inr ⟨m2, rfl, HM.out.two⟩) af am).mono ?_
  rintro e w4 ⟨rfl, rfl⟩
  by_cases x1 : (am != bm) = true
  · have HO : Hid (am ≠ bm ∨ af ≠ bf ∧ bk ≠ 2) := Lib.hid (.inl (by simpa using x1))
    by_cases e0 : bk = 0
    · subst e0
      go_wp2_with fail
      refine (mmark_any HM.out bf bm).mono ?_
      rintro e w4 ⟨rfl, hM4, hK4⟩
      have HN : Hid (MarksAt w4 b m1 m2 n (after1 n (0, bf, bm) (mark1 n af am [])) (after2 n (0, bf, bm) (mark2 n af am []))) := Lib.hid (by simpa [after1, after2] using hM4)
      have HW : Hid (Keep [] w w4) := Lib.hid (HK.out.then hK4 (by simp; have := HB.out; omega))
      obtain ⟨q0, q1, q2⟩ := stepObj_cells (hK4.heap HP.out.1 HP.out.2.2.1)
      clear hM4 hK4
      have HL : Hid (decide (af ∈ sel am (after1 n (0, bf, bm) (mark1 n af am [])) (after2 n (0, bf, bm) (mark2 n af am []))) = decide (af ∈ sel am (mark1 n af am []) (mark2 n af am []))) := Lib.hid (by
        rw [decide_eq_decide]
        exact apart_law n af am (0, bf, bm) _ _ HO.out)
      go_wp2_with (first | (go_at_call 13; refine (mhas_any HN.out.sets (.inr ⟨m1, rfl, HN.out.one⟩) (.inr ⟨m2, rfl, HN.out.two⟩) _ _).mono ?_; rintro e w7 ⟨rfl, rfl⟩; rw [HL.out]) | (go_at_call 16; refine (mworks _).mono ?_; rintro e w9 ⟨rfl, hK9⟩))
      all_goals (go_ret; exact ⟨rfl, (HW.out.then hK9 (by simp)).below (Nat.le_refl _) (by simp)⟩)
    · by_cases e1 : bk = 1
      · subst e1
        go_wp2_with fail
        refine (mdrop_at HM.out bf bm).mono ?_
        rintro e w4 ⟨rfl, hM4, hK4⟩
        have HN : Hid (MarksAt w4 b m1 m2 n (after1 n (1, bf, bm) (mark1 n af am [])) (after2 n (1, bf, bm) (mark2 n af am []))) := Lib.hid (by simpa [after1, after2] using hM4)
        have HW : Hid (Keep [] w w4) := Lib.hid (HK.out.then hK4 (by simp; have := HB.out; omega))
        obtain ⟨q0, q1, q2⟩ := stepObj_cells (hK4.heap HP.out.1 HP.out.2.2.1)
        clear hM4 hK4
        have HL : Hid (decide (af ∈ sel am (after1 n (1, bf, bm) (mark1 n af am [])) (after2 n (1, bf, bm) (mark2 n af am []))) = decide (af ∈ sel am (mark1 n af am []) (mark2 n af am []))) := Lib.hid (by
          rw [decide_eq_decide]
          exact apart_law n af am (1, bf, bm) _ _ HO.out)
        go_wp2_with (first | (go_at_call 13; refine (mhas_any HN.out.sets (.inr ⟨m1, rfl, HN.out.one⟩) (.inr ⟨m2, rfl, HN.out.two⟩) _ _).mono ?_; rintro e w7 ⟨rfl, rfl⟩; rw [HL.out]) | (go_at_call 16; refine (mworks _).mono ?_; rintro e w9 ⟨rfl, hK9⟩))
        all_goals (go_ret; exact ⟨rfl, (HW.out.then hK9 (by simp)).below (Nat.le_refl _) (by simp)⟩)
      · by_cases e2 : bk = 2
        · subst e2
          go_wp2_with fail
          refine (mclear_at HM.out bm).mono ?_
          rintro e w4 ⟨rfl, hM4, hK4⟩
          have HN : Hid (MarksAt w4 b m1 m2 n (after1 n (2, bf, bm) (mark1 n af am [])) (after2 n (2, bf, bm) (mark2 n af am []))) := Lib.hid (by simpa [after1, after2] using hM4)
          have HW : Hid (Keep [] w w4) := Lib.hid (HK.out.then hK4 (by simp; have := HB.out; omega))
          obtain ⟨q0, q1, q2⟩ := stepObj_cells (hK4.heap HP.out.1 HP.out.2.2.1)
          clear hM4 hK4
          have HL : Hid (decide (af ∈ sel am (after1 n (2, bf, bm) (mark1 n af am [])) (after2 n (2, bf, bm) (mark2 n af am []))) = decide (af ∈ sel am (mark1 n af am []) (mark2 n af am []))) := Lib.hid (by
            rw [decide_eq_decide]
            exact apart_law n af am (2, bf, bm) _ _ HO.out)
          go_wp2_with (first | (go_at_call 13; refine (mhas_any HN.out.sets (.inr ⟨m1, rfl, HN.out.one⟩) (.inr ⟨m2, rfl, HN.out.two⟩) _ _).mono ?_; rintro e w7 ⟨rfl, rfl⟩; rw [HL.out]) | (go_at_call 16; refine (mworks _).mono ?_; rintro e w9 ⟨rfl, hK9⟩))
          all_goals (go_ret; exact ⟨rfl, (HW.out.then hK9 (by simp)).below (Nat.le_refl _) (by simp)⟩)
        · have HN : Hid (MarksAt w3 b m1 m2 n (after1 n (bk, bf, bm) (mark1 n af am [])) (after2 n (bk, bf, bm) (mark2 n af am []))) := Lib.hid (by simpa [after1, after2, e0, e1, e2] using HM.out)
          have HW := HK
          have HL : Hid (decide (af ∈ sel am (after1 n (bk, bf, bm) (mark1 n af am [])) (after2 n (bk, bf, bm) (mark2 n af am []))) = decide (af ∈ sel am (mark1 n af am []) (mark2 n af am []))) := Lib.hid (by
            rw [decide_eq_decide]
            exact apart_law n af am (bk, bf, bm) _ _ HO.out)
          go_wp2_with (first | (go_at_call 13; refine (mhas_any HN.out.sets (.inr ⟨m1, rfl, HN.out.one⟩) (.inr ⟨m2, rfl, HN.out.two⟩) _ _).mono ?_; rintro e w7 ⟨rfl, rfl⟩; rw [HL.out]) | (go_at_call 16; refine (mworks _).mono ?_; rintro e w9 ⟨rfl, hK9⟩))
          all_goals (go_ret; exact ⟨rfl, (HW.out.then hK9 (by simp)).below (Nat.le_refl _) (by simp)⟩)
  · have x1 : (am != bm) = false := by simpa using x1
    by_cases x2 : (af != bf) = true
    · by_cases x3 : (bk != 2) = true
      · have HO : Hid (am ≠ bm ∨ af ≠ bf ∧ bk ≠ 2) := Lib.hid (.inr ⟨by simpa using x2, by simpa using x3⟩)
        by_cases e0 : bk = 0
        · subst e0
          go_wp2_with fail
          refine (mmark_any HM.out bf bm).mono ?_
          rintro e w4 ⟨rfl, hM4, hK4⟩
          have HN : Hid (MarksAt w4 b m1 m2 n (after1 n (0, bf, bm) (mark1 n af am [])) (after2 n (0, bf, bm) (mark2 n af am []))) := Lib.hid (by simpa [after1, after2] using hM4)
          have HW : Hid (Keep [] w w4) := Lib.hid (HK.out.then hK4 (by simp; have := HB.out; omega))
          obtain ⟨q0, q1, q2⟩ := stepObj_cells (hK4.heap HP.out.1 HP.out.2.2.1)
          clear hM4 hK4
          have HL : Hid (decide (af ∈ sel am (after1 n (0, bf, bm) (mark1 n af am [])) (after2 n (0, bf, bm) (mark2 n af am []))) = decide (af ∈ sel am (mark1 n af am []) (mark2 n af am []))) := Lib.hid (by
            rw [decide_eq_decide]
            exact apart_law n af am (0, bf, bm) _ _ HO.out)
          go_wp2_with (first | (go_at_call 13; refine (mhas_any HN.out.sets (.inr ⟨m1, rfl, HN.out.one⟩) (.inr ⟨m2, rfl, HN.out.two⟩) _ _).mono ?_; rintro e w7 ⟨rfl, rfl⟩; rw [HL.out]) | (go_at_call 16; refine (mworks _).mono ?_; rintro e w9 ⟨rfl, hK9⟩))
          all_goals (go_ret; exact ⟨rfl, (HW.out.then hK9 (by simp)).below (Nat.le_refl _) (by simp)⟩)
        · by_cases e1 : bk = 1
          · subst e1
            go_wp2_with fail
            refine (mdrop_at HM.out bf bm).mono ?_
            rintro e w4 ⟨rfl, hM4, hK4⟩
            have HN : Hid (MarksAt w4 b m1 m2 n (after1 n (1, bf, bm) (mark1 n af am [])) (after2 n (1, bf, bm) (mark2 n af am []))) := Lib.hid (by simpa [after1, after2] using hM4)
            have HW : Hid (Keep [] w w4) := Lib.hid (HK.out.then hK4 (by simp; have := HB.out; omega))
            obtain ⟨q0, q1, q2⟩ := stepObj_cells (hK4.heap HP.out.1 HP.out.2.2.1)
            clear hM4 hK4
            have HL : Hid (decide (af ∈ sel am (after1 n (1, bf, bm) (mark1 n af am [])) (after2 n (1, bf, bm) (mark2 n af am []))) = decide (af ∈ sel am (mark1 n af am []) (mark2 n af am []))) := Lib.hid (by
              rw [decide_eq_decide]
              exact apart_law n af am (1, bf, bm) _ _ HO.out)
            go_wp2_with (first | (go_at_call 13; refine (mhas_any HN.out.sets (.inr ⟨m1, rfl, HN.out.one⟩) (.inr ⟨m2, rfl, HN.out.two⟩) _ _).mono ?_; rintro e w7 ⟨rfl, rfl⟩; rw [HL.out]) | (go_at_call 16; refine (mworks _).mono ?_; rintro e w9 ⟨rfl, hK9⟩))
            all_goals (go_ret; exact ⟨rfl, (HW.out.then hK9 (by simp)).below (Nat.le_refl _) (by simp)⟩)
          · by_cases e2 : bk = 2
            · subst e2
              go_wp2_with fail
              refine (mclear_at HM.out bm).mono ?_
              rintro e w4 ⟨rfl, hM4, hK4⟩
              have HN : Hid (MarksAt w4 b m1 m2 n (after1 n (2, bf, bm) (mark1 n af am [])) (after2 n (2, bf, bm) (mark2 n af am []))) := Lib.hid (by simpa [after1, after2] using hM4)
              have HW : Hid (Keep [] w w4) := Lib.hid (HK.out.then hK4 (by simp; have := HB.out; omega))
              obtain ⟨q0, q1, q2⟩ := stepObj_cells (hK4.heap HP.out.1 HP.out.2.2.1)
              clear hM4 hK4
              have HL : Hid (decide (af ∈ sel am (after1 n (2, bf, bm) (mark1 n af am [])) (after2 n (2, bf, bm) (mark2 n af am []))) = decide (af ∈ sel am (mark1 n af am []) (mark2 n af am []))) := Lib.hid (by
                rw [decide_eq_decide]
                exact apart_law n af am (2, bf, bm) _ _ HO.out)
              go_wp2_with (first | (go_at_call 13; refine (mhas_any HN.out.sets (.inr ⟨m1, rfl, HN.out.one⟩) (.inr ⟨m2, rfl, HN.out.two⟩) _ _).mono ?_; rintro e w7 ⟨rfl, rfl⟩; rw [HL.out]) | (go_at_call 16; refine (mworks _).mono ?_; rintro e w9 ⟨rfl, hK9⟩))
              all_goals (go_ret; exact ⟨rfl, (HW.out.then hK9 (by simp)).below (Nat.le_refl _) (by simp)⟩)
            · have HN : Hid (MarksAt w3 b m1 m2 n (after1 n (bk, bf, bm) (mark1 n af am [])) (after2 n (bk, bf, bm) (mark2 n af am []))) := Lib.hid (by simpa [after1, after2, e0, e1, e2] using HM.out)
              have HW := HK
              have HL : Hid (decide (af ∈ sel am (after1 n (bk, bf, bm) (mark1 n af am [])) (after2 n (bk, bf, bm) (mark2 n af am []))) = decide (af ∈ sel am (mark1 n af am []) (mark2 n af am []))) := Lib.hid (by
                rw [decide_eq_decide]
                exact apart_law n af am (bk, bf, bm) _ _ HO.out)
              go_wp2_with (first | (go_at_call 13; refine (mhas_any HN.out.sets (.inr ⟨m1, rfl, HN.out.one⟩) (.inr ⟨m2, rfl, HN.out.two⟩) _ _).mono ?_; rintro e w7 ⟨rfl, rfl⟩; rw [HL.out]) | (go_at_call 16; refine (mworks _).mono ?_; rintro e w9 ⟨rfl, hK9⟩))
              all_goals (go_ret; exact ⟨rfl, (HW.out.then hK9 (by simp)).below (Nat.le_refl _) (by simp)⟩)
      · have x3 : (bk != 2) = false := by simpa using x3
        by_cases e0 : bk = 0
        · subst e0
          go_wp2_with fail
          refine (mmark_any HM.out bf bm).mono ?_
          rintro e w4 ⟨rfl, hM4, hK4⟩
          have HN : Hid (MarksAt w4 b m1 m2 n (after1 n (0, bf, bm) (mark1 n af am [])) (after2 n (0, bf, bm) (mark2 n af am []))) := Lib.hid (by simpa [after1, after2] using hM4)
          have HW : Hid (Keep [] w w4) := Lib.hid (HK.out.then hK4 (by simp; have := HB.out; omega))
          obtain ⟨q0, q1, q2⟩ := stepObj_cells (hK4.heap HP.out.1 HP.out.2.2.1)
          clear hM4 hK4
          go_wp2_with (go_at_call 16; refine (mworks _).mono ?_; rintro e w9 ⟨rfl, hK9⟩)
          all_goals (go_ret; exact ⟨rfl, (HW.out.then hK9 (by simp)).below (Nat.le_refl _) (by simp)⟩)
        · by_cases e1 : bk = 1
          · subst e1
            go_wp2_with fail
            refine (mdrop_at HM.out bf bm).mono ?_
            rintro e w4 ⟨rfl, hM4, hK4⟩
            have HN : Hid (MarksAt w4 b m1 m2 n (after1 n (1, bf, bm) (mark1 n af am [])) (after2 n (1, bf, bm) (mark2 n af am []))) := Lib.hid (by simpa [after1, after2] using hM4)
            have HW : Hid (Keep [] w w4) := Lib.hid (HK.out.then hK4 (by simp; have := HB.out; omega))
            obtain ⟨q0, q1, q2⟩ := stepObj_cells (hK4.heap HP.out.1 HP.out.2.2.1)
            clear hM4 hK4
            go_wp2_with (go_at_call 16; refine (mworks _).mono ?_; rintro e w9 ⟨rfl, hK9⟩)
            all_goals (go_ret; exact ⟨rfl, (HW.out.then hK9 (by simp)).below (Nat.le_refl _) (by simp)⟩)
          · by_cases e2 : bk = 2
            · subst e2
              go_wp2_with fail
              refine (mclear_at HM.out bm).mono ?_
              rintro e w4 ⟨rfl, hM4, hK4⟩
              have HN : Hid (MarksAt w4 b m1 m2 n (after1 n (2, bf, bm) (mark1 n af am [])) (after2 n (2, bf, bm) (mark2 n af am []))) := Lib.hid (by simpa [after1, after2] using hM4)
              have HW : Hid (Keep [] w w4) := Lib.hid (HK.out.then hK4 (by simp; have := HB.out; omega))
              obtain ⟨q0, q1, q2⟩ := stepObj_cells (hK4.heap HP.out.1 HP.out.2.2.1)
              clear hM4 hK4
              go_wp2_with (go_at_call 16; refine (mworks _).mono ?_; rintro e w9 ⟨rfl, hK9⟩)
              all_goals (go_ret; exact ⟨rfl, (HW.out.then hK9 (by simp)).below (Nat.le_refl _) (by simp)⟩)
            · have HN : Hid (MarksAt w3 b m1 m2 n (after1 n (bk, bf, bm) (mark1 n af am [])) (after2 n (bk, bf, bm) (mark2 n af am []))) := Lib.hid (by simpa [after1, after2, e0, e1, e2] using HM.out)
              have HW := HK
              go_wp2_with (go_at_call 16; refine (mworks _).mono ?_; rintro e w9 ⟨rfl, hK9⟩)
              all_goals (go_ret; exact ⟨rfl, (HW.out.then hK9 (by simp)).below (Nat.le_refl _) (by simp)⟩)
    · have x2 : (af != bf) = false := by simpa using x2
      by_cases e0 : bk = 0
      · subst e0
        go_wp2_with fail
        refine (mmark_any HM.out bf bm).mono ?_
        rintro e w4 ⟨rfl, hM4, hK4⟩
        have HN : Hid (MarksAt w4 b m1 m2 n (after1 n (0, bf, bm) (mark1 n af am [])) (after2 n (0, bf, bm) (mark2 n af am []))) := Lib.hid (by simpa [after1, after2] using hM4)
        have HW : Hid (Keep [] w w4) := Lib.hid (HK.out.then hK4 (by simp; have := HB.out; omega))
        obtain ⟨q0, q1, q2⟩ := stepObj_cells (hK4.heap HP.out.1 HP.out.2.2.1)
        clear hM4 hK4
        go_wp2_with (go_at_call 16; refine (mworks _).mono ?_; rintro e w9 ⟨rfl, hK9⟩)
        all_goals (go_ret; exact ⟨rfl, (HW.out.then hK9 (by simp)).below (Nat.le_refl _) (by simp)⟩)
      · by_cases e1 : bk = 1
        · subst e1
          go_wp2_with fail
          refine (mdrop_at HM.out bf bm).mono ?_
          rintro e w4 ⟨rfl, hM4, hK4⟩
          have HN : Hid (MarksAt w4 b m1 m2 n (after1 n (1, bf, bm) (mark1 n af am [])) (after2 n (1, bf, bm) (mark2 n af am []))) := Lib.hid (by simpa [after1, after2] using hM4)
          have HW : Hid (Keep [] w w4) := Lib.hid (HK.out.then hK4 (by simp; have := HB.out; omega))
          obtain ⟨q0, q1, q2⟩ := stepObj_cells (hK4.heap HP.out.1 HP.out.2.2.1)
          clear hM4 hK4
          go_wp2_with (go_at_call 16; refine (mworks _).mono ?_; rintro e w9 ⟨rfl, hK9⟩)
          all_goals (go_ret; exact ⟨rfl, (HW.out.then hK9 (by simp)).below (Nat.le_refl _) (by simp)⟩)
        · by_cases e2 : bk = 2
          · subst e2
            go_wp2_with fail
            refine (mclear_at HM.out bm).mono ?_
            rintro e w4 ⟨rfl, hM4, hK4⟩
            have HN : Hid (MarksAt w4 b m1 m2 n (after1 n (2, bf, bm) (mark1 n af am [])) (after2 n (2, bf, bm) (mark2 n af am []))) := Lib.hid (by simpa [after1, after2] using hM4)
            have HW : Hid (Keep [] w w4) := Lib.hid (HK.out.then hK4 (by simp; have := HB.out; omega))
            obtain ⟨q0, q1, q2⟩ := stepObj_cells (hK4.heap HP.out.1 HP.out.2.2.1)
            clear hM4 hK4
            go_wp2_with (go_at_call 16; refine (mworks _).mono ?_; rintro e w9 ⟨rfl, hK9⟩)
            all_goals (go_ret; exact ⟨rfl, (HW.out.then hK9 (by simp)).below (Nat.le_refl _) (by simp)⟩)
          · have HN : Hid (MarksAt w3 b m1 m2 n (after1 n (bk, bf, bm) (mark1 n af am [])) (after2 n (bk, bf, bm) (mark2 n af am []))) := Lib.hid (by simpa [after1, after2, e0, e1, e2] using HM.out)
            have HW := HK
            go_wp2_with (go_at_call 16; refine (mworks _).mono ?_; rintro e w9 ⟨rfl, hK9⟩)
            all_goals (go_ret; exact ⟨rfl, (HW.out.then hK9 (by simp)).below (Nat.le_refl _) (by simp)⟩)
end Go.Proofs.Ytaanefkddmakeaa
