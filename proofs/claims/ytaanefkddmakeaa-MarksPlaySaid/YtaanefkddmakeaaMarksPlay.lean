/- The law MarksPlay, walked. -/
import Derived.Test.YtaanefkddmakeaaMarks3
import Derived.Deep.Cut
import Derived.Deep.CutBlock
import Derived.Deep.DeepCutAuto
import Derived.Test.YtaanefkddmakeaaHeld
import Derived.Outline
namespace Go.Proofs.Ytaanefkddmakeaa
open Go.RowKit Go.Mum

structure MPlay (W : World) (b m1 m2 c t wb n : Nat) (s1 s2 : List Int) (w : World) : Prop where
  marks : MarksAt w b m1 m2 n s1 s2
  ref : RMarks w c t n s1 s2
  box : w.heap[wb]? = some (.cells #[.slice (some ⟨c, 0, none⟩) n n, .slice (some ⟨t, 0, none⟩) n n] 47 (0, 0))
  span1 : ∀ x ∈ s1, 0 ≤ x ∧ x < (n : Int)
  span2 : ∀ x ∈ s2, 0 ≤ x ∧ x < (n : Int)
  ne : (c ≠ b ∧ c ≠ m1 ∧ c ≠ m2) ∧ (t ≠ b ∧ t ≠ m1 ∧ t ≠ m2) ∧ (wb ≠ b ∧ wb ≠ m1 ∧ wb ≠ m2) ∧ wb ≠ c ∧ wb ≠ t
  keep : Keep [] W w
  new : (W.heap.size ≤ b ∧ W.heap.size ≤ m1 ∧ W.heap.size ≤ m2) ∧ W.heap.size ≤ c ∧ W.heap.size ≤ t ∧ W.heap.size ≤ wb

theorem RMarks.ext {w : World} {c t n : Nat} {s1 s2 s1' s2' : List Int} (h : RMarks w c t n s1 s2) (h1 : ∀ j : Nat, j < n → ((j : Int) ∈ s1 ↔ (j : Int) ∈ s1')) (h2 : ∀ j : Nat, j < n → ((j : Int) ∈ s2 ↔ (j : Int) ∈ s2')) : RMarks w c t n s1' s2' :=
  ⟨h.one.ext fun j hj => by simp only [h1 j hj], h.two.ext fun j hj => by simp only [h2 j hj], h.ne, h.bound⟩

section
variable {W : World} {b m1 m2 c t wb n : Nat} {s1 s2 : List Int} {w x : World}

theorem MPlay.step (h : MPlay W b m1 m2 c t wb n s1 s2 w) (hK : Keep [] w x) : MPlay W b m1 m2 c t wb n s1 s2 x :=
  ⟨h.marks.keep hK (by simp) (by simp) (by simp), h.ref.keep hK (by simp) (by simp), hK.heap h.box (by simp), h.span1, h.span2, h.ne, h.keep.then hK (by simp), h.new⟩

theorem MPlay.boxes (h : MPlay W b m1 m2 c t wb n s1 s2 w) : w.cell? ⟨wb, 0, none⟩ = some (.slice (some ⟨c, 0, none⟩) n n) ∧ w.cell? ⟨wb, 1, none⟩ = some (.slice (some ⟨t, 0, none⟩) n n) := ⟨cell_of h.box 0 rfl, cell_of h.box 1 rfl⟩

theorem MPlay.rhas (h : MPlay W b m1 m2 c t wb n s1 s2 w) (f k : Int) : rhas n f k s1 s2 = decide (f ∈ sel k s1 s2) := by
  unfold Go.Proofs.Ytaanefkddmakeaa.rhas
  rw [decide_eq_decide]
  refine ⟨fun q => q.2.2, fun q => ?_⟩
  have : 0 ≤ f ∧ f < (n : Int) := by
    unfold sel at q
    split at q
    · exact h.span1 f q
    · split at q
      · exact h.span2 f q
      · cases q
  exact ⟨this.1, this.2, q⟩

/-- Marks and document's marks turn alike. -/
theorem MPlay.both {y : World} {s1' s2' : List Int} (h : MPlay W b m1 m2 c t wb n s1 s2 w) (hM : MarksAt x b m1 m2 n s1' s2') (hK : Keep [m1, m2] w x) (hR : RMarks y c t n s1' s2') (hK2 : Keep [c, t] x y)
    (p1 : ∀ z ∈ s1', 0 ≤ z ∧ z < (n : Int)) (p2 : ∀ z ∈ s2', 0 ≤ z ∧ z < (n : Int)) : MPlay W b m1 m2 c t wb n s1' s2' y := by
  obtain ⟨⟨q1, q2, q3⟩, ⟨q4, q5, q6⟩, ⟨q7, q8, q9⟩, q10, q11⟩ := h.ne
  obtain ⟨⟨r1, r2, r3⟩, r4, r5, r6⟩ := h.new
  exact ⟨hM.keep hK2 (by simp; exact ⟨q1.symm, q4.symm⟩) (by simp; exact ⟨q2.symm, q5.symm⟩) (by simp; exact ⟨q3.symm, q6.symm⟩), hR, hK2.heap (hK.heap h.box (by simp; exact ⟨q8, q9⟩)) (by simp; exact ⟨q10, q11⟩), p1, p2, h.ne,
    (h.keep.then hK (by simp; omega)).then hK2 (by simp; omega), h.new⟩
end

theorem drop_alike {n f k k0 : Int} (h0 : k0 = 1 ∨ k0 = 2) {s : List Int} {j : Int} (hj : 0 ≤ j ∧ j < n) : (j ∈ (if k = k0 ∧ fits n f k then put f false s else s)) ↔ (j ∈ (if k = k0 then s.filter (· ≠ f) else s)) := by
  by_cases hk : k = k0
  · subst hk
    by_cases hf : fits n f k
    · simp [hf, put]
    · have : ¬ j = f := by rintro rfl; exact hf ⟨h0, hj⟩
      simp [hf, this]
  · simp [hk]

theorem clear_alike {n k k0 : Int} {j i : Nat} (h0 : k0 = 1 ∨ k0 = 2) {s : List Int} (hj : j < n) (_hi : (i : Int) < n) :
    ((i : Int) ∈ (if k = k0 ∧ fits n j k then put j false (if k = k0 then s.filter (fun z => decide ((j : Int) ≤ z)) else s) else (if k = k0 then s.filter (fun z => decide ((j : Int) ≤ z)) else s))) ↔ ((i : Int) ∈ (if k = k0 then s.filter (fun z => decide (((j + 1 : Nat) : Int) ≤ z)) else s)) := by
  by_cases hk : k = k0
  · subst hk
    have hf : fits n j k := ⟨h0, by omega, by omega⟩
    simp [hf, put]
    omega
  · simp [hk]

/-- A mark that may be, laid in both. -/
theorem MPlay.mark {W : World} {b m1 m2 c t wb n : Nat} {s1 s2 : List Int} {w x x' y' : World} {f k : Int} {e e' : Ending} (h : MPlay W b m1 m2 c t wb n s1 s2 w) (hf : fits n f k) (hk : Keep [] w x)
    (hp : MarkPost f k b m1 m2 n s1 s2 x e x') (hs : RSet f k true c t n s1 s2 x' e' y') : MPlay W b m1 m2 c t wb n (if k = 1 then ins f s1 else s1) (if k = 2 then ins f s2 else s2) y' := by
  obtain ⟨-, hM, hK⟩ := hp
  obtain ⟨-, hR, hK2⟩ := hs
  refine (h.step hk).both hM hK (hR.ext ?_ ?_) hK2 ?_ ?_
  · intro j _; simp [hf, put]
  · intro j _; simp [hf, put]
  · intro z hz
    split at hz
    · rcases mem_ins.1 hz with rfl | hz
      · exact hf.2
      · exact h.span1 z hz
    · exact h.span1 z hz
  · intro z hz
    split at hz
    · rcases mem_ins.1 hz with rfl | hz
      · exact hf.2
      · exact h.span2 z hz
    · exact h.span2 z hz

theorem MPlay.unmark {W : World} {b m1 m2 c t wb n : Nat} {s1 s2 : List Int} {w x y' : World} {f k : Int} {e' : Ending} (h : MPlay W b m1 m2 c t wb n s1 s2 w) (hf : ¬ fits n f k) (hk : Keep [] w x)
    (hs : RSet f k true c t n s1 s2 x e' y') : MPlay W b m1 m2 c t wb n s1 s2 y' := by
  obtain ⟨-, hR, hK2⟩ := hs
  have h1 := h.step hk
  refine h1.both h1.marks (Keep.refl _ _) (hR.ext ?_ ?_) hK2 h.span1 h.span2
  · intro j _; simp [hf]
  · intro j _; simp [hf]

theorem no_fit {w : World} {b m1 m2 : Nat} {n : Nat} {s1 s2 : List Int} {f k : Int} (h : MarksAt w b m1 m2 n s1 s2) (hf : ¬ fits n f k) :
    selM k (some m1) (some m2) = none ∨ (∃ b' n', Value.pointer (some ⟨b, 0, none⟩) = .pointer (some ⟨b', 0, none⟩) ∧ w.cell? ⟨b', 0, none⟩ = some (.int .i64 n') ∧ (f < 0 ∨ n' ≤ f)) := by
  unfold fits at hf
  by_cases hk : k = 1 ∨ k = 2
  · exact .inr ⟨b, n, rfl, h.cells.1, by omega⟩
  · refine .inl ?_
    unfold selM
    rw [if_neg (fun e => hk (.inl e)), if_neg (fun e => hk (.inr e))]

theorem span_mark1 {n f k : Int} {s : List Int} (h : ∀ x ∈ s, 0 ≤ x ∧ x < n) : ∀ x ∈ mark1 n f k s, 0 ≤ x ∧ x < n := by
  intro x hx
  unfold mark1 at hx
  split at hx
  · rename_i hf
    rcases mem_ins.1 hx with rfl | hx
    · exact hf.2.2
    · exact h x hx
  · exact h x hx

theorem span_mark2 {n f k : Int} {s : List Int} (h : ∀ x ∈ s, 0 ≤ x ∧ x < n) : ∀ x ∈ mark2 n f k s, 0 ≤ x ∧ x < n := by
  intro x hx
  unfold mark2 at hx
  split at hx
  · rename_i hf
    rcases mem_ins.1 hx with rfl | hx
    · exact hf.2.2
    · exact h x hx
  · exact h x hx

theorem cells_of_step {w : World} {B n : Nat} {s : Option Addr} {len cap : Nat} (h : Fits Try.prog w B n 45 [.slice s len cap]) : len = 0 ∨ ∃ lb off, s = some ⟨lb, off, none⟩ ∧ len ≤ 9223372036854775807 ∧ lb < w.heap.size ∧
    ∀ i, i < len → ∃ a : Int × Int × Int, w.cell? ⟨lb, off + i * 3 + 0, none⟩ = some (.int .i64 a.1) ∧ w.cell? ⟨lb, off + i * 3 + 1, none⟩ = some (.int .i64 a.2.1) ∧ w.cell? ⟨lb, off + i * 3 + 2, none⟩ = some (.int .i64 a.2.2) := by
  rcases h.rows Try.underlying45 3 (by kernel_rfl) (by omega) with h | ⟨lb, off, mm, rfl, _, h1, h2, _, hlt, h3⟩
  · exact .inl h
  · refine .inr ⟨lb, off, rfl, by unfold maxLen at h2; omega, hlt, fun i hi => ?_⟩
    obtain ⟨ds, hd, hc, hf⟩ := h3 i hi
    obtain ⟨a, ha, _⟩ := step_of (c := ds.toArray) (by simpa using hf)
    have hds : ds = [.int .i64 a.1, .int .i64 a.2.1, .int .i64 a.2.2] := by simpa using ha
    subst hds
    exact ⟨a, hc 0 (by omega), hc 1 (by omega), hc 2 (by omega)⟩

set_option maxRecDepth 100000 in
set_option maxHeartbeats 4000000 in
theorem MarksPlay_walk (a0 : Int) (s1 : Option Addr) (len1 cap1 n1 : Nat) (w : World) (w0 : (Lit.int .u8 a0).wf = true) (w1 : Fits Try.prog w maxLen n1 45 [.slice s1 len1 cap1]) :
    Calls Try.prog 7 #[.int .u8 a0, .slice s1 len1 cap1] w fun e w' => e = .returned (.bool true) ∧ Below w.heap.size w w' := by
  have hrow := cells_of_step w1
  have b0 := wf_u8 w0
  clear w0 w1
  obtain ⟨n, hn⟩ : ∃ n : Nat, n = 1 + a0.toNat % 64 := ⟨_, rfl⟩
  have hn0 : 1 + a0 % 64 = (n : Int) := by omega
  have hn1 : (1 : Int) ≤ n := by omega
  have hn2 : (n : Int) ≤ 64 := by omega
  have hn3 : n ≤ 64 := by omega
  have hb1 := b0.1
  have hb2 := b0.2
  have Hn := Lib.hid hn0
  clear hn b0 hn0
  go_enter Try.func7, Try.ntmps7
  go_wp2_with fail
  rw [Hn.out]
  refine (mnew_good n _ hn1 hn2).mono ?_
  rintro e w1 ⟨b, m1, m2, hb, hm1, hm2, rfl, hM, hK⟩
  have H1 := Lib.hid (And.intro hM (And.intro hK (And.intro hb (And.intro hm1 hm2))))
  clear hM hK hb hm1 hm2
  go_wp2_with fail
  refine (rnew_at n hn3 _).mono ?_
  rintro e w2 ⟨c, t, hc, ht, rfl, hR, hK⟩
  unfold rval
  have H2 := Lib.hid (And.intro hR (And.intro hK (And.intro hc ht)))
  clear hR hK hc ht
  go_wp2_with fail
  generalize hx : World.alloc w2 _ = w3
  have hR : MPlay w b m1 m2 c t w2.heap.size n [] [] w3 := by
    have k3 : Keep [] w2 w3 := by rw [← hx]; exact (Keep.refl _ _).alloc _
    obtain ⟨hM, hK1, hb, hm1, hm2⟩ := H1.out
    obtain ⟨hR, hK2, hc, ht⟩ := H2.out
    have l1 := lt_of_heap hM.blk
    have l2 := hM.one.lt
    have l3 := hM.two.lt
    have l4 := hR.one.lt
    have l5 := hR.two.lt
    have z1 := hK1.size
    have z2 := hK2.size
    refine ⟨(hM.keep hK2 (by simp) (by simp) (by simp)).keep k3 (by simp) (by simp) (by simp), hR.keep k3 (by simp) (by simp), by rw [← hx]; exact heap_alloc_new w2 _, by simp, by simp, ⟨by omega, by omega, by omega, by omega⟩, (hK1.then hK2 (by simp)).then k3 (by simp), by omega⟩
  clear hx H1 H2
  generalize w2.heap.size = wb at hR
  go_loopw [9] (fun i wr => ∃ (k : Nat) (s1 s2 : List Int), i = .int .i64 k ∧ k ≤ 100 ∧ k ≤ len1 ∧ MPlay w b m1 m2 c t wb n s1 s2 wr) (fun i _ => 100 - (intOf i).toNat)
  case atStart => exact ⟨0, [], [], rfl, by omega, by omega, hR⟩
  case round =>
    clear hR
    obtain ⟨r, z1, z2, rfl, hr1, hr2, hR⟩ := hrel
    by_cases hlt : r < len1 ∧ r < 100
    · obtain ⟨hl1, hl2⟩ := hlt
      obtain ⟨lb, off, hs1, hl64, kd, f, k, c0, c1, c2⟩ : ∃ lb off, s1 = some ⟨lb, off, none⟩ ∧ len1 ≤ 9223372036854775807 ∧ ∃ kd f k : Int, wr.cell? ⟨lb, off + r * 3, none⟩ = some (.int .i64 kd) ∧ wr.cell? ⟨lb, off + r * 3 + 1, none⟩ = some (.int .i64 f) ∧ wr.cell? ⟨lb, off + r * 3 + 2, none⟩ = some (.int .i64 k) := by
        rcases hrow with h | ⟨lb, off, h1, h2, _, h3⟩
        · omega
        · obtain ⟨a, h4, h5, h6⟩ := h3 r hl1
          exact ⟨lb, off, h1, h2, a.1, a.2.1, a.2.2, hR.keep.cell h4 (by simp), hR.keep.cell h5 (by simp), hR.keep.cell h6 (by simp)⟩
      subst hs1
      clear hrow
      go_upto_region 10 with (fail)
      generalize hx : World.alloc wr _ = wx
      have HS : Hid (wx.heap[wr.heap.size]? = some (stepObj (kd, f, k))) := Lib.hid (by rw [← hx]; exact heap_alloc_same wr _)
      have HR : Hid (MPlay w b m1 m2 c t wb n z1 z2 wx) := Lib.hid (hR.step (by rw [← hx]; exact (Keep.refl _ _).alloc _))
      have HL : Hid (wr.heap.size ≠ b ∧ wr.heap.size ≠ m1 ∧ wr.heap.size ≠ m2 ∧ wr.heap.size ≠ c ∧ wr.heap.size ≠ t ∧ wr.heap.size ≠ wb) := Lib.hid (by
        have l1 := lt_of_heap hR.marks.blk
        have l2 := hR.marks.one.lt
        have l3 := hR.marks.two.lt
        have l4 := hR.ref.one.lt
        have l5 := hR.ref.two.lt
        have l6 := lt_of_heap hR.box
        omega)
      clear hx hR c0 c1 c2
      generalize wr.heap.size = sb at HS HL
      obtain ⟨d0, d1⟩ := HR.out.boxes
      obtain ⟨q0, q1, q2⟩ := stepObj_cells HS.out
      simp only at q0 q1 q2
      go_upto_block 2 with fail
      go_cut [] (fun wx2 => ∃ y1 y2 : List Int, Hid (MPlay w b m1 m2 c t wb n y1 y2 wx2 ∧ wx2.heap[sb]? = some (stepObj (kd, f, k))))
      case first =>
        have HBx := Lib.hid (fun x (hx : Keep [m1, m2, c, t] wx x) => (show x.cell? ⟨wb, 0, none⟩ = some (.slice (some ⟨c, 0, none⟩) n n) ∧ x.cell? ⟨wb, 1, none⟩ = some (.slice (some ⟨t, 0, none⟩) n n) ∧ x.cell? ⟨sb, 1, none⟩ = some (.int .i64 f) ∧ x.cell? ⟨sb, 2, none⟩ = some (.int .i64 k) from by
          have hne := HR.out.ne
          have hl := HL.out
          exact ⟨hx.cell d0 (by simp; omega), hx.cell d1 (by simp; omega), hx.cell q1 (by simp; omega), hx.cell q2 (by simp; omega)⟩))
        by_cases e0 : kd = 0
        · subst e0
          obtain ⟨x1, hx1⟩ : ∃ x1, decide (f ∈ z1) = x1 := ⟨_, rfl⟩
          obtain ⟨x2, hx2⟩ : ∃ x2, decide (f ∈ z2) = x2 := ⟨_, rfl⟩
          have HH1 := Lib.hid (fun x (hx : Keep [] wx x) => by
            have := rhas_at (HR.out.step hx).ref f 1
            rw [HR.out.rhas, sel_one, hx1] at this
            exact this)
          have HH2 := Lib.hid (fun x (hx : Keep [] wx x) => by
            have := rhas_at (HR.out.step hx).ref f 2
            rw [HR.out.rhas, sel_two, hx2] at this
            exact this)
          unfold rval at HH1 HH2
          have Y := Lib.hid (And.intro hx1 hx2)
          have hn2 : ((!x2) != (!x2)) = false := by simp
          have hk5 : Keep [] wx wx := Keep.refl _ _
          clear hx1 hx2 q0
          cases x1
          · clear d0 d1 q1 q2
            obtain ⟨d0, d1, q1, q2⟩ := HBx.out _ (Keep.refl _ wx)
            go_wp2_with fail
            refine (HH1.out _ hk5).mono ?_
            rintro e w5 ⟨rfl, hkn⟩
            replace hk5 := hk5.trans hkn
            clear hkn
            have hB5 := HBx.out _ (hk5.weaken (by simp))
            obtain ⟨d0, d1, q1, q2⟩ := hB5
            go_wp2_with fail
            refine (HH2.out _ hk5).mono ?_
            rintro e w6 ⟨rfl, hkn⟩
            replace hk5 := hk5.trans hkn
            clear hkn
            have hB5 := HBx.out _ (hk5.weaken (by simp))
            obtain ⟨d0, d1, q1, q2⟩ := hB5
            by_cases hfit : fits n f k
            · go_wp2_with fail
              have hk6 := hk5.drew
              refine wp_region_held_drew (S := fun x => Keep [m1, m2, c, t] wx x ∧ x.cell? ⟨wb, 0, none⟩ = some (.slice (some ⟨c, 0, none⟩) n n) ∧ x.cell? ⟨wb, 1, none⟩ = some (.slice (some ⟨t, 0, none⟩) n n) ∧ x.cell? ⟨sb, 1, none⟩ = some (.int .i64 f) ∧ x.cell? ⟨sb, 2, none⟩ = some (.int .i64 k)) (by kernel_rfl) ⟨hk6.weaken (by simp), HBx.out _ (hk6.weaken (by simp))⟩ (fun hHeld => ?_)
              skip
              refine wpAnyH_take (i := 0) (oi := { dst := some 54, op := Op.move (Operand.tmp 6), type := 24, pos := "law.go:45", after := #[], guard := none }) (v := ?_) rfl (by kernel_rfl) (by kernel_rfl) (by kernel_rfl) (fun _ _ _ h => h) (Or.inl ⟨by rfl, ?_⟩) (by assumption) ?_
              rotate_left
              focus (intro w hSw; (try dsimp only at hSw); go_simp <;> with_reducible rfl)
              try simp only [Act.put, List.setIfInBounds_toArray, List.set_cons_zero, List.set_cons_succ]
              refine wpAnyH_take (i := 1) (oi := { dst := some 55, op := Op.fieldAddr 23 (Operand.tmp 10) 1, type := 0, pos := "law.go:45", after := #[], guard := none }) (v := ?_) rfl (by kernel_rfl) (by kernel_rfl) (by kernel_rfl) (fun _ _ _ h => h) (Or.inl ⟨by rfl, ?_⟩) (by assumption) ?_
              rotate_left
              focus (intro w hSw; (try dsimp only at hSw); go_simp <;> with_reducible rfl)
              try simp only [Act.put, List.setIfInBounds_toArray, List.set_cons_zero, List.set_cons_succ]
              refine wpAnyH_take (i := 2) (oi := { dst := some 56, op := Op.load 3 (Operand.tmp 55), type := 3, pos := "law.go:45", after := #[{ on := 1, ground := Ground.data }], guard := none }) (v := ?_) rfl (by kernel_rfl) (by kernel_rfl) (by kernel_rfl) (fun _ _ _ h => h) (Or.inl ⟨by rfl, ?_⟩) (by assumption) ?_
              rotate_left
              focus (intro w hSw; (try dsimp only at hSw); go_simp <;> with_reducible rfl)
              try simp only [Act.put, List.setIfInBounds_toArray, List.set_cons_zero, List.set_cons_succ]
              refine wpAnyH_take (i := 3) (oi := { dst := some 57, op := Op.fieldAddr 23 (Operand.tmp 10) 2, type := 0, pos := "law.go:45", after := #[], guard := none }) (v := ?_) rfl (by kernel_rfl) (by kernel_rfl) (by kernel_rfl) (fun _ _ _ h => h) (Or.inl ⟨by rfl, ?_⟩) (by assumption) ?_
              rotate_left
              focus (intro w hSw; (try dsimp only at hSw); go_simp <;> with_reducible rfl)
              try simp only [Act.put, List.setIfInBounds_toArray, List.set_cons_zero, List.set_cons_succ]
              refine wpAnyH_take (i := 4) (oi := { dst := some 58, op := Op.load 3 (Operand.tmp 57), type := 3, pos := "law.go:45", after := #[{ on := 3, ground := Ground.data }], guard := none }) (v := ?_) rfl (by kernel_rfl) (by kernel_rfl) (by kernel_rfl) (fun _ _ _ h => h) (Or.inl ⟨by rfl, ?_⟩) (by assumption) ?_
              rotate_left
              focus (intro w hSw; (try dsimp only at hSw); go_simp <;> with_reducible rfl)
              try simp only [Act.put, List.setIfInBounds_toArray, List.set_cons_zero, List.set_cons_succ]
              refine wpAnyH_take (i := 6) (oi := { dst := some 60, op := Op.load 47 (Operand.tmp 8), type := 47, pos := "law.go:45", after := #[], guard := none }) (v := ?_) rfl (by kernel_rfl) (by kernel_rfl) (by kernel_rfl) (fun _ _ _ h => h) (Or.inl ⟨by rfl, ?_⟩) (by assumption) ?_
              rotate_left
              focus (intro w hSw; (try dsimp only at hSw); go_simp <;> with_reducible rfl)
              try simp only [Act.put, List.setIfInBounds_toArray, List.set_cons_zero, List.set_cons_succ]
              refine wpAnyH_take (i := 7) (oi := { dst := some 61, op := Op.fieldAddr 23 (Operand.tmp 10) 1, type := 0, pos := "law.go:45", after := #[], guard := none }) (v := ?_) rfl (by kernel_rfl) (by kernel_rfl) (by kernel_rfl) (fun _ _ _ h => h) (Or.inl ⟨by rfl, ?_⟩) (by assumption) ?_
              rotate_left
              focus (intro w hSw; (try dsimp only at hSw); go_simp <;> with_reducible rfl)
              try simp only [Act.put, List.setIfInBounds_toArray, List.set_cons_zero, List.set_cons_succ]
              refine wpAnyH_take (i := 8) (oi := { dst := some 62, op := Op.load 3 (Operand.tmp 61), type := 3, pos := "law.go:45", after := #[{ on := 7, ground := Ground.data }], guard := none }) (v := ?_) rfl (by kernel_rfl) (by kernel_rfl) (by kernel_rfl) (fun _ _ _ h => h) (Or.inl ⟨by rfl, ?_⟩) (by assumption) ?_
              rotate_left
              focus (intro w hSw; (try dsimp only at hSw); go_simp <;> with_reducible rfl)
              try simp only [Act.put, List.setIfInBounds_toArray, List.set_cons_zero, List.set_cons_succ]
              refine wpAnyH_take (i := 9) (oi := { dst := some 63, op := Op.fieldAddr 23 (Operand.tmp 10) 2, type := 0, pos := "law.go:45", after := #[], guard := none }) (v := ?_) rfl (by kernel_rfl) (by kernel_rfl) (by kernel_rfl) (fun _ _ _ h => h) (Or.inl ⟨by rfl, ?_⟩) (by assumption) ?_
              rotate_left
              focus (intro w hSw; (try dsimp only at hSw); go_simp <;> with_reducible rfl)
              try simp only [Act.put, List.setIfInBounds_toArray, List.set_cons_zero, List.set_cons_succ]
              refine wpAnyH_take (i := 10) (oi := { dst := some 64, op := Op.load 3 (Operand.tmp 63), type := 3, pos := "law.go:45", after := #[{ on := 9, ground := Ground.data }], guard := none }) (v := ?_) rfl (by kernel_rfl) (by kernel_rfl) (by kernel_rfl) (fun _ _ _ h => h) (Or.inl ⟨by rfl, ?_⟩) (by assumption) ?_
              rotate_left
              focus (intro w hSw; (try dsimp only at hSw); go_simp <;> with_reducible rfl)
              try simp only [Act.put, List.setIfInBounds_toArray, List.set_cons_zero, List.set_cons_succ]
              refine wpAnyH_ready (rs := [5]) (by kernel_rfl) (by simp) ?_
              refine AllReadyH.cons (o := { dst := some 59, op := Op.call { callee := Callee.value (Operand.func 12), args := #[Operand.tmp 54, Operand.tmp 56, Operand.tmp 58], argTypes := #[24, 3, 3] }, type := 4, pos := "law.go:45", after := #[{ on := 0, ground := Ground.data }, { on := 2, ground := Ground.data }, { on := 4, ground := Ground.data }], guard := none }) rfl (fun K hK => ?_) AllReadyH.nil
              go_simp
              refine (mmark_yes (HR.out.step hk6).marks f k hfit.1 hfit.2.1 hfit.2.2).mono ?_
              rintro e y1 hp
              have HP := Lib.hid hp
              obtain ⟨rfl, -, hk7⟩ := hp
              rw [Y.out.1, Y.out.2]
              have hk8 := (hk6.weaken (l' := [m1, m2, c, t]) (by simp)).trans (hk7.weaken (by simp))
              have HM := Lib.hid (HP.out.2.1)
              have HRR := Lib.hid ((HR.out.step hk6).ref.keep hk7 (by simp; exact HR.out.ne.1.2) (by simp; exact HR.out.ne.2.1.2))
              have HC1 := Lib.hid (HBx.out _ hk8)
              have HK8 := Lib.hid hk8
              clear hk7 hk8
              go_wp2_with fail
              refine shut_grow (fun x => Keep [c, t] y1 x ∧ x.cell? ⟨wb, 0, none⟩ = some (.slice (some ⟨c, 0, none⟩) n n) ∧ x.cell? ⟨wb, 1, none⟩ = some (.slice (some ⟨t, 0, none⟩) n n) ∧ x.cell? ⟨sb, 1, none⟩ = some (.int .i64 f) ∧ x.cell? ⟨sb, 2, none⟩ = some (.int .i64 k)) hK (fun _ h => ⟨HK8.out.trans (h.1.weaken (by simp)), h.2⟩) ⟨Keep.refl _ _, HC1.out⟩ (fun hHeld => ?_)
              clear hK K
              skip
              refine wpAnyH_ready (rs := [11]) (by kernel_rfl) (by simp) ?_
              refine AllReadyH.cons (o := { dst := some 65, op := Op.call { callee := Callee.value (Operand.func 26), args := #[Operand.tmp 60, Operand.tmp 62, Operand.tmp 64, Operand.const (Value.bool true)], argTypes := #[47, 3, 3, 4] }, type := 4, pos := "law.go:45", after := #[{ on := 6, ground := Ground.data }, { on := 8, ground := Ground.data }, { on := 10, ground := Ground.data }, { on := 5, ground := Ground.chain }], guard := none }) rfl (fun K hK => ?_) AllReadyH.nil
              go_simp
              refine (rset_at HRR.out f k true).mono ?_
              rintro e y2 hs
              have HS2 := Lib.hid hs
              obtain ⟨rfl, -, hk9⟩ := hs
              rw [decide_eq_true hfit]
              go_wp2_with fail
              have HF : Hid (MPlay w b m1 m2 c t wb n (if k = 1 then ins f z1 else z1) (if k = 2 then ins f z2 else z2) y2 ∧ y2.heap[sb]? = some (stepObj (0, f, k))) := Lib.hid ⟨HR.out.mark hfit hk6 HP.out HS2.out, (HK8.out.trans (hk9.weaken (by simp))).heap HS.out (by simp; have := HL.out; omega)⟩
              have hS := HBx.out _ (HK8.out.trans (hk9.weaken (by simp)))
              refine shut_grow (fun x => x = y2) hK (fun _ h => by rw [h]; exact ⟨hk9, hS⟩) rfl (fun hHeld => ?_)
              clear hK K hS hk9
              refine wpAnyH_take (i := 12) (oi := { dst := some 66, op := Op.move (Operand.tmp 65), type := 4, pos := "law.go:45", after := #[{ on := 11, ground := Ground.data }, { on := 11, ground := Ground.chain }], guard := none }) (v := ?_) rfl (by kernel_rfl) (by kernel_rfl) (by kernel_rfl) (fun _ _ _ h => h) (Or.inl ⟨by rfl, ?_⟩) (by assumption) ?_
              rotate_left
              focus (intro w hSw; (try dsimp only at hSw); go_simp <;> with_reducible rfl)
              try simp only [Act.put, List.setIfInBounds_toArray, List.set_cons_zero, List.set_cons_succ]
              refine wpAnyH_take (i := 13) (oi := { dst := some 67, op := Op.move (Operand.tmp 11), type := 4, pos := "law.go:45", after := #[{ on := 12, ground := Ground.guard }], guard := some (12, true) }) (v := ?_) rfl (by kernel_rfl) (by kernel_rfl) (by kernel_rfl) (fun _ _ _ h => h) (Or.inl ⟨by rfl, ?_⟩) (by assumption) ?_
              rotate_left
              focus (intro w hSw; (try dsimp only at hSw); go_simp <;> with_reducible rfl)
              try simp only [Act.put, List.setIfInBounds_toArray, List.set_cons_zero, List.set_cons_succ]
              refine wpAnyH_take (i := 14) (oi := { dst := some 68, op := Op.unOp UnOp.not 4 (Operand.tmp 67), type := 4, pos := "law.go:45", after := #[{ on := 13, ground := Ground.data }, { on := 12, ground := Ground.guard }], guard := some (12, true) }) (v := ?_) rfl (by kernel_rfl) (by kernel_rfl) (by kernel_rfl) (fun _ _ _ h => h) (Or.inl ⟨by rfl, ?_⟩) (by assumption) ?_
              rotate_left
              focus (intro w hSw; (try dsimp only at hSw); go_simp <;> with_reducible rfl)
              try simp only [Act.put, List.setIfInBounds_toArray, List.set_cons_zero, List.set_cons_succ]
              refine wpAnyH_take (i := 15) (oi := { dst := some 69, op := Op.pick (Operand.tmp 66) (Operand.tmp 68) (Operand.const (Value.bool false)), type := 4, pos := "law.go:45", after := #[{ on := 12, ground := Ground.data }, { on := 14, ground := Ground.data }], guard := none }) (v := ?_) rfl (by kernel_rfl) (by kernel_rfl) (by kernel_rfl) (fun _ _ _ h => h) (Or.inl ⟨by rfl, ?_⟩) (by assumption) ?_
              rotate_left
              focus (intro w hSw; (try dsimp only at hSw); go_simp <;> with_reducible rfl)
              try simp only [Act.put, List.setIfInBounds_toArray, List.set_cons_zero, List.set_cons_succ]
              refine wpAnyH_take (i := 16) (oi := { dst := some 70, op := Op.binOp BinOp.neq 4 (Operand.tmp 59) (Operand.tmp 69) 4, type := 4, pos := "law.go:45", after := #[{ on := 5, ground := Ground.data }, { on := 15, ground := Ground.data }], guard := none }) (v := ?_) rfl (by kernel_rfl) (by kernel_rfl) (by kernel_rfl) (fun _ _ _ h => h) (Or.inl ⟨by rfl, ?_⟩) (by assumption) ?_
              rotate_left
              focus (intro w hSw; (try dsimp only at hSw); go_simp <;> with_reducible rfl)
              try simp only [Act.put, List.setIfInBounds_toArray, List.set_cons_zero, List.set_cons_succ]
              refine wpAnyH_done (by kernel_rfl) ?_ _
              clear hHeld
              go_wp2_with fail
              go_meet
              case rel => exact ⟨_, _, HF⟩
            · have hno : selM k (some m1) (some m2) = none ∨ (∃ b' n', Value.pointer (some ⟨b, 0, none⟩) = .pointer (some ⟨b', 0, none⟩) ∧ w6.drew.cell? ⟨b', 0, none⟩ = some (.int .i64 n') ∧ (f < 0 ∨ n' ≤ f)) := no_fit (HR.out.step hk5.drew).marks hfit
              go_wp2_with fail
              have hk6 := hk5.drew
              refine wp_region_held_drew (S := fun x => Keep [m1, m2, c, t] wx x ∧ x.cell? ⟨wb, 0, none⟩ = some (.slice (some ⟨c, 0, none⟩) n n) ∧ x.cell? ⟨wb, 1, none⟩ = some (.slice (some ⟨t, 0, none⟩) n n) ∧ x.cell? ⟨sb, 1, none⟩ = some (.int .i64 f) ∧ x.cell? ⟨sb, 2, none⟩ = some (.int .i64 k)) (by kernel_rfl) ⟨hk6.weaken (by simp), HBx.out _ (hk6.weaken (by simp))⟩ (fun hHeld => ?_)
              skip
              refine wpAnyH_take (i := 0) (oi := { dst := some 54, op := Op.move (Operand.tmp 6), type := 24, pos := "law.go:45", after := #[], guard := none }) (v := ?_) rfl (by kernel_rfl) (by kernel_rfl) (by kernel_rfl) (fun _ _ _ h => h) (Or.inl ⟨by rfl, ?_⟩) (by assumption) ?_
              rotate_left
              focus (intro w hSw; (try dsimp only at hSw); go_simp <;> with_reducible rfl)
              try simp only [Act.put, List.setIfInBounds_toArray, List.set_cons_zero, List.set_cons_succ]
              refine wpAnyH_take (i := 1) (oi := { dst := some 55, op := Op.fieldAddr 23 (Operand.tmp 10) 1, type := 0, pos := "law.go:45", after := #[], guard := none }) (v := ?_) rfl (by kernel_rfl) (by kernel_rfl) (by kernel_rfl) (fun _ _ _ h => h) (Or.inl ⟨by rfl, ?_⟩) (by assumption) ?_
              rotate_left
              focus (intro w hSw; (try dsimp only at hSw); go_simp <;> with_reducible rfl)
              try simp only [Act.put, List.setIfInBounds_toArray, List.set_cons_zero, List.set_cons_succ]
              refine wpAnyH_take (i := 2) (oi := { dst := some 56, op := Op.load 3 (Operand.tmp 55), type := 3, pos := "law.go:45", after := #[{ on := 1, ground := Ground.data }], guard := none }) (v := ?_) rfl (by kernel_rfl) (by kernel_rfl) (by kernel_rfl) (fun _ _ _ h => h) (Or.inl ⟨by rfl, ?_⟩) (by assumption) ?_
              rotate_left
              focus (intro w hSw; (try dsimp only at hSw); go_simp <;> with_reducible rfl)
              try simp only [Act.put, List.setIfInBounds_toArray, List.set_cons_zero, List.set_cons_succ]
              refine wpAnyH_take (i := 3) (oi := { dst := some 57, op := Op.fieldAddr 23 (Operand.tmp 10) 2, type := 0, pos := "law.go:45", after := #[], guard := none }) (v := ?_) rfl (by kernel_rfl) (by kernel_rfl) (by kernel_rfl) (fun _ _ _ h => h) (Or.inl ⟨by rfl, ?_⟩) (by assumption) ?_
              rotate_left
              focus (intro w hSw; (try dsimp only at hSw); go_simp <;> with_reducible rfl)
              try simp only [Act.put, List.setIfInBounds_toArray, List.set_cons_zero, List.set_cons_succ]
              refine wpAnyH_take (i := 4) (oi := { dst := some 58, op := Op.load 3 (Operand.tmp 57), type := 3, pos := "law.go:45", after := #[{ on := 3, ground := Ground.data }], guard := none }) (v := ?_) rfl (by kernel_rfl) (by kernel_rfl) (by kernel_rfl) (fun _ _ _ h => h) (Or.inl ⟨by rfl, ?_⟩) (by assumption) ?_
              rotate_left
              focus (intro w hSw; (try dsimp only at hSw); go_simp <;> with_reducible rfl)
              try simp only [Act.put, List.setIfInBounds_toArray, List.set_cons_zero, List.set_cons_succ]
              refine wpAnyH_take (i := 6) (oi := { dst := some 60, op := Op.load 47 (Operand.tmp 8), type := 47, pos := "law.go:45", after := #[], guard := none }) (v := ?_) rfl (by kernel_rfl) (by kernel_rfl) (by kernel_rfl) (fun _ _ _ h => h) (Or.inl ⟨by rfl, ?_⟩) (by assumption) ?_
              rotate_left
              focus (intro w hSw; (try dsimp only at hSw); go_simp <;> with_reducible rfl)
              try simp only [Act.put, List.setIfInBounds_toArray, List.set_cons_zero, List.set_cons_succ]
              refine wpAnyH_take (i := 7) (oi := { dst := some 61, op := Op.fieldAddr 23 (Operand.tmp 10) 1, type := 0, pos := "law.go:45", after := #[], guard := none }) (v := ?_) rfl (by kernel_rfl) (by kernel_rfl) (by kernel_rfl) (fun _ _ _ h => h) (Or.inl ⟨by rfl, ?_⟩) (by assumption) ?_
              rotate_left
              focus (intro w hSw; (try dsimp only at hSw); go_simp <;> with_reducible rfl)
              try simp only [Act.put, List.setIfInBounds_toArray, List.set_cons_zero, List.set_cons_succ]
              refine wpAnyH_take (i := 8) (oi := { dst := some 62, op := Op.load 3 (Operand.tmp 61), type := 3, pos := "law.go:45", after := #[{ on := 7, ground := Ground.data }], guard := none }) (v := ?_) rfl (by kernel_rfl) (by kernel_rfl) (by kernel_rfl) (fun _ _ _ h => h) (Or.inl ⟨by rfl, ?_⟩) (by assumption) ?_
              rotate_left
              focus (intro w hSw; (try dsimp only at hSw); go_simp <;> with_reducible rfl)
              try simp only [Act.put, List.setIfInBounds_toArray, List.set_cons_zero, List.set_cons_succ]
              refine wpAnyH_take (i := 9) (oi := { dst := some 63, op := Op.fieldAddr 23 (Operand.tmp 10) 2, type := 0, pos := "law.go:45", after := #[], guard := none }) (v := ?_) rfl (by kernel_rfl) (by kernel_rfl) (by kernel_rfl) (fun _ _ _ h => h) (Or.inl ⟨by rfl, ?_⟩) (by assumption) ?_
              rotate_left
              focus (intro w hSw; (try dsimp only at hSw); go_simp <;> with_reducible rfl)
              try simp only [Act.put, List.setIfInBounds_toArray, List.set_cons_zero, List.set_cons_succ]
              refine wpAnyH_take (i := 10) (oi := { dst := some 64, op := Op.load 3 (Operand.tmp 63), type := 3, pos := "law.go:45", after := #[{ on := 9, ground := Ground.data }], guard := none }) (v := ?_) rfl (by kernel_rfl) (by kernel_rfl) (by kernel_rfl) (fun _ _ _ h => h) (Or.inl ⟨by rfl, ?_⟩) (by assumption) ?_
              rotate_left
              focus (intro w hSw; (try dsimp only at hSw); go_simp <;> with_reducible rfl)
              try simp only [Act.put, List.setIfInBounds_toArray, List.set_cons_zero, List.set_cons_succ]
              refine wpAnyH_ready (rs := [5]) (by kernel_rfl) (by simp) ?_
              refine AllReadyH.cons (o := { dst := some 59, op := Op.call { callee := Callee.value (Operand.func 12), args := #[Operand.tmp 54, Operand.tmp 56, Operand.tmp 58], argTypes := #[24, 3, 3] }, type := 4, pos := "law.go:45", after := #[{ on := 0, ground := Ground.data }, { on := 2, ground := Ground.data }, { on := 4, ground := Ground.data }], guard := none }) rfl (fun K hK => ?_) AllReadyH.nil
              go_simp
              refine (mmark_no (HR.out.step hk6).marks.sets f k hno).mono ?_
              rintro e y1 ⟨rfl, rfl⟩
              have HRR := Lib.hid (HR.out.step hk6).ref
              go_wp2_with fail
              refine shut_grow (fun x => Keep [m1, m2, c, t] wx x ∧ x.cell? ⟨wb, 0, none⟩ = some (.slice (some ⟨c, 0, none⟩) n n) ∧ x.cell? ⟨wb, 1, none⟩ = some (.slice (some ⟨t, 0, none⟩) n n) ∧ x.cell? ⟨sb, 1, none⟩ = some (.int .i64 f) ∧ x.cell? ⟨sb, 2, none⟩ = some (.int .i64 k)) hK (fun _ h => h) hHeld (fun hHeld => ?_)
              clear hK K
              skip
              refine wpAnyH_ready (rs := [11]) (by kernel_rfl) (by simp) ?_
              refine AllReadyH.cons (o := { dst := some 65, op := Op.call { callee := Callee.value (Operand.func 26), args := #[Operand.tmp 60, Operand.tmp 62, Operand.tmp 64, Operand.const (Value.bool true)], argTypes := #[47, 3, 3, 4] }, type := 4, pos := "law.go:45", after := #[{ on := 6, ground := Ground.data }, { on := 8, ground := Ground.data }, { on := 10, ground := Ground.data }, { on := 5, ground := Ground.chain }], guard := none }) rfl (fun K hK => ?_) AllReadyH.nil
              go_simp
              refine (rset_at HRR.out f k true).mono ?_
              rintro e y2 hs
              have HS2 := Lib.hid hs
              obtain ⟨rfl, -, hk9⟩ := hs
              rw [decide_eq_false hfit]
              go_wp2_with fail
              have HF : Hid (MPlay w b m1 m2 c t wb n z1 z2 y2 ∧ y2.heap[sb]? = some (stepObj (0, f, k))) := Lib.hid ⟨HR.out.unmark hfit hk6 HS2.out, ((hk6.weaken (l' := [m1, m2, c, t]) (by simp)).trans (hk9.weaken (by simp))).heap HS.out (by simp; have := HL.out; omega)⟩
              have hS := HBx.out _ ((hk6.weaken (l' := [m1, m2, c, t]) (by simp)).trans (hk9.weaken (by simp)))
              refine shut_grow (fun x => x = y2) hK (fun _ h => by rw [h]; exact ⟨(hk6.weaken (l' := [m1, m2, c, t]) (by simp)).trans (hk9.weaken (by simp)), hS⟩) rfl (fun hHeld => ?_)
              clear hK K hS hk9
              refine wpAnyH_take (i := 12) (oi := { dst := some 66, op := Op.move (Operand.tmp 65), type := 4, pos := "law.go:45", after := #[{ on := 11, ground := Ground.data }, { on := 11, ground := Ground.chain }], guard := none }) (v := ?_) rfl (by kernel_rfl) (by kernel_rfl) (by kernel_rfl) (fun _ _ _ h => h) (Or.inl ⟨by rfl, ?_⟩) (by assumption) ?_
              rotate_left
              focus (intro w hSw; (try dsimp only at hSw); go_simp <;> with_reducible rfl)
              try simp only [Act.put, List.setIfInBounds_toArray, List.set_cons_zero, List.set_cons_succ]
              refine wpAnyH_take (i := 13) (oi := { dst := some 67, op := Op.move (Operand.tmp 11), type := 4, pos := "law.go:45", after := #[{ on := 12, ground := Ground.guard }], guard := some (12, true) }) (v := undef) rfl (by kernel_rfl) (by kernel_rfl) (by kernel_rfl) (fun _ _ _ h => h) (Or.inr ⟨by rfl, rfl⟩) (by assumption) ?_
              try simp only [Act.put, List.setIfInBounds_toArray, List.set_cons_zero, List.set_cons_succ]
              refine wpAnyH_take (i := 14) (oi := { dst := some 68, op := Op.unOp UnOp.not 4 (Operand.tmp 67), type := 4, pos := "law.go:45", after := #[{ on := 13, ground := Ground.data }, { on := 12, ground := Ground.guard }], guard := some (12, true) }) (v := undef) rfl (by kernel_rfl) (by kernel_rfl) (by kernel_rfl) (fun _ _ _ h => h) (Or.inr ⟨by rfl, rfl⟩) (by assumption) ?_
              try simp only [Act.put, List.setIfInBounds_toArray, List.set_cons_zero, List.set_cons_succ]
              refine wpAnyH_take (i := 15) (oi := { dst := some 69, op := Op.pick (Operand.tmp 66) (Operand.tmp 68) (Operand.const (Value.bool false)), type := 4, pos := "law.go:45", after := #[{ on := 12, ground := Ground.data }, { on := 14, ground := Ground.data }], guard := none }) (v := ?_) rfl (by kernel_rfl) (by kernel_rfl) (by kernel_rfl) (fun _ _ _ h => h) (Or.inl ⟨by rfl, ?_⟩) (by assumption) ?_
              rotate_left
              focus (intro w hSw; (try dsimp only at hSw); go_simp <;> with_reducible rfl)
              try simp only [Act.put, List.setIfInBounds_toArray, List.set_cons_zero, List.set_cons_succ]
              refine wpAnyH_take (i := 16) (oi := { dst := some 70, op := Op.binOp BinOp.neq 4 (Operand.tmp 59) (Operand.tmp 69) 4, type := 4, pos := "law.go:45", after := #[{ on := 5, ground := Ground.data }, { on := 15, ground := Ground.data }], guard := none }) (v := ?_) rfl (by kernel_rfl) (by kernel_rfl) (by kernel_rfl) (fun _ _ _ h => h) (Or.inl ⟨by rfl, ?_⟩) (by assumption) ?_
              rotate_left
              focus (intro w hSw; (try dsimp only at hSw); go_simp <;> with_reducible rfl)
              try simp only [Act.put, List.setIfInBounds_toArray, List.set_cons_zero, List.set_cons_succ]
              refine wpAnyH_done (by kernel_rfl) ?_ _
              clear hHeld
              go_wp2_with fail
              go_meet
              case rel => exact ⟨_, _, HF⟩
          · clear d0 d1 q1 q2
            obtain ⟨d0, d1, q1, q2⟩ := HBx.out _ (Keep.refl _ wx)
            go_wp2_with fail
            refine (HH1.out _ hk5).mono ?_
            rintro e w5 ⟨rfl, hkn⟩
            replace hk5 := hk5.trans hkn
            clear hkn
            have hB5 := HBx.out _ (hk5.weaken (by simp))
            obtain ⟨d0, d1, q1, q2⟩ := hB5
            by_cases hfit : fits n f k
            · go_wp2_with fail
              have hk6 := hk5.drew
              refine wp_region_held_drew (S := fun x => Keep [m1, m2, c, t] wx x ∧ x.cell? ⟨wb, 0, none⟩ = some (.slice (some ⟨c, 0, none⟩) n n) ∧ x.cell? ⟨wb, 1, none⟩ = some (.slice (some ⟨t, 0, none⟩) n n) ∧ x.cell? ⟨sb, 1, none⟩ = some (.int .i64 f) ∧ x.cell? ⟨sb, 2, none⟩ = some (.int .i64 k)) (by kernel_rfl) ⟨hk6.weaken (by simp), HBx.out _ (hk6.weaken (by simp))⟩ (fun hHeld => ?_)
              skip
              refine wpAnyH_take (i := 0) (oi := { dst := some 54, op := Op.move (Operand.tmp 6), type := 24, pos := "law.go:45", after := #[], guard := none }) (v := ?_) rfl (by kernel_rfl) (by kernel_rfl) (by kernel_rfl) (fun _ _ _ h => h) (Or.inl ⟨by rfl, ?_⟩) (by assumption) ?_
              rotate_left
              focus (intro w hSw; (try dsimp only at hSw); go_simp <;> with_reducible rfl)
              try simp only [Act.put, List.setIfInBounds_toArray, List.set_cons_zero, List.set_cons_succ]
              refine wpAnyH_take (i := 1) (oi := { dst := some 55, op := Op.fieldAddr 23 (Operand.tmp 10) 1, type := 0, pos := "law.go:45", after := #[], guard := none }) (v := ?_) rfl (by kernel_rfl) (by kernel_rfl) (by kernel_rfl) (fun _ _ _ h => h) (Or.inl ⟨by rfl, ?_⟩) (by assumption) ?_
              rotate_left
              focus (intro w hSw; (try dsimp only at hSw); go_simp <;> with_reducible rfl)
              try simp only [Act.put, List.setIfInBounds_toArray, List.set_cons_zero, List.set_cons_succ]
              refine wpAnyH_take (i := 2) (oi := { dst := some 56, op := Op.load 3 (Operand.tmp 55), type := 3, pos := "law.go:45", after := #[{ on := 1, ground := Ground.data }], guard := none }) (v := ?_) rfl (by kernel_rfl) (by kernel_rfl) (by kernel_rfl) (fun _ _ _ h => h) (Or.inl ⟨by rfl, ?_⟩) (by assumption) ?_
              rotate_left
              focus (intro w hSw; (try dsimp only at hSw); go_simp <;> with_reducible rfl)
              try simp only [Act.put, List.setIfInBounds_toArray, List.set_cons_zero, List.set_cons_succ]
              refine wpAnyH_take (i := 3) (oi := { dst := some 57, op := Op.fieldAddr 23 (Operand.tmp 10) 2, type := 0, pos := "law.go:45", after := #[], guard := none }) (v := ?_) rfl (by kernel_rfl) (by kernel_rfl) (by kernel_rfl) (fun _ _ _ h => h) (Or.inl ⟨by rfl, ?_⟩) (by assumption) ?_
              rotate_left
              focus (intro w hSw; (try dsimp only at hSw); go_simp <;> with_reducible rfl)
              try simp only [Act.put, List.setIfInBounds_toArray, List.set_cons_zero, List.set_cons_succ]
              refine wpAnyH_take (i := 4) (oi := { dst := some 58, op := Op.load 3 (Operand.tmp 57), type := 3, pos := "law.go:45", after := #[{ on := 3, ground := Ground.data }], guard := none }) (v := ?_) rfl (by kernel_rfl) (by kernel_rfl) (by kernel_rfl) (fun _ _ _ h => h) (Or.inl ⟨by rfl, ?_⟩) (by assumption) ?_
              rotate_left
              focus (intro w hSw; (try dsimp only at hSw); go_simp <;> with_reducible rfl)
              try simp only [Act.put, List.setIfInBounds_toArray, List.set_cons_zero, List.set_cons_succ]
              refine wpAnyH_take (i := 6) (oi := { dst := some 60, op := Op.load 47 (Operand.tmp 8), type := 47, pos := "law.go:45", after := #[], guard := none }) (v := ?_) rfl (by kernel_rfl) (by kernel_rfl) (by kernel_rfl) (fun _ _ _ h => h) (Or.inl ⟨by rfl, ?_⟩) (by assumption) ?_
              rotate_left
              focus (intro w hSw; (try dsimp only at hSw); go_simp <;> with_reducible rfl)
              try simp only [Act.put, List.setIfInBounds_toArray, List.set_cons_zero, List.set_cons_succ]
              refine wpAnyH_take (i := 7) (oi := { dst := some 61, op := Op.fieldAddr 23 (Operand.tmp 10) 1, type := 0, pos := "law.go:45", after := #[], guard := none }) (v := ?_) rfl (by kernel_rfl) (by kernel_rfl) (by kernel_rfl) (fun _ _ _ h => h) (Or.inl ⟨by rfl, ?_⟩) (by assumption) ?_
              rotate_left
              focus (intro w hSw; (try dsimp only at hSw); go_simp <;> with_reducible rfl)
              try simp only [Act.put, List.setIfInBounds_toArray, List.set_cons_zero, List.set_cons_succ]
              refine wpAnyH_take (i := 8) (oi := { dst := some 62, op := Op.load 3 (Operand.tmp 61), type := 3, pos := "law.go:45", after := #[{ on := 7, ground := Ground.data }], guard := none }) (v := ?_) rfl (by kernel_rfl) (by kernel_rfl) (by kernel_rfl) (fun _ _ _ h => h) (Or.inl ⟨by rfl, ?_⟩) (by assumption) ?_
              rotate_left
              focus (intro w hSw; (try dsimp only at hSw); go_simp <;> with_reducible rfl)
              try simp only [Act.put, List.setIfInBounds_toArray, List.set_cons_zero, List.set_cons_succ]
              refine wpAnyH_take (i := 9) (oi := { dst := some 63, op := Op.fieldAddr 23 (Operand.tmp 10) 2, type := 0, pos := "law.go:45", after := #[], guard := none }) (v := ?_) rfl (by kernel_rfl) (by kernel_rfl) (by kernel_rfl) (fun _ _ _ h => h) (Or.inl ⟨by rfl, ?_⟩) (by assumption) ?_
              rotate_left
              focus (intro w hSw; (try dsimp only at hSw); go_simp <;> with_reducible rfl)
              try simp only [Act.put, List.setIfInBounds_toArray, List.set_cons_zero, List.set_cons_succ]
              refine wpAnyH_take (i := 10) (oi := { dst := some 64, op := Op.load 3 (Operand.tmp 63), type := 3, pos := "law.go:45", after := #[{ on := 9, ground := Ground.data }], guard := none }) (v := ?_) rfl (by kernel_rfl) (by kernel_rfl) (by kernel_rfl) (fun _ _ _ h => h) (Or.inl ⟨by rfl, ?_⟩) (by assumption) ?_
              rotate_left
              focus (intro w hSw; (try dsimp only at hSw); go_simp <;> with_reducible rfl)
              try simp only [Act.put, List.setIfInBounds_toArray, List.set_cons_zero, List.set_cons_succ]
              refine wpAnyH_ready (rs := [5]) (by kernel_rfl) (by simp) ?_
              refine AllReadyH.cons (o := { dst := some 59, op := Op.call { callee := Callee.value (Operand.func 12), args := #[Operand.tmp 54, Operand.tmp 56, Operand.tmp 58], argTypes := #[24, 3, 3] }, type := 4, pos := "law.go:45", after := #[{ on := 0, ground := Ground.data }, { on := 2, ground := Ground.data }, { on := 4, ground := Ground.data }], guard := none }) rfl (fun K hK => ?_) AllReadyH.nil
              go_simp
              refine (mmark_yes (HR.out.step hk6).marks f k hfit.1 hfit.2.1 hfit.2.2).mono ?_
              rintro e y1 hp
              have HP := Lib.hid hp
              obtain ⟨rfl, -, hk7⟩ := hp
              rw [Y.out.1, Y.out.2]
              have hk8 := (hk6.weaken (l' := [m1, m2, c, t]) (by simp)).trans (hk7.weaken (by simp))
              have HM := Lib.hid (HP.out.2.1)
              have HRR := Lib.hid ((HR.out.step hk6).ref.keep hk7 (by simp; exact HR.out.ne.1.2) (by simp; exact HR.out.ne.2.1.2))
              have HC1 := Lib.hid (HBx.out _ hk8)
              have HK8 := Lib.hid hk8
              clear hk7 hk8
              go_wp2_with fail
              refine shut_grow (fun x => Keep [c, t] y1 x ∧ x.cell? ⟨wb, 0, none⟩ = some (.slice (some ⟨c, 0, none⟩) n n) ∧ x.cell? ⟨wb, 1, none⟩ = some (.slice (some ⟨t, 0, none⟩) n n) ∧ x.cell? ⟨sb, 1, none⟩ = some (.int .i64 f) ∧ x.cell? ⟨sb, 2, none⟩ = some (.int .i64 k)) hK (fun _ h => ⟨HK8.out.trans (h.1.weaken (by simp)), h.2⟩) ⟨Keep.refl _ _, HC1.out⟩ (fun hHeld => ?_)
              clear hK K
              skip
              refine wpAnyH_ready (rs := [11]) (by kernel_rfl) (by simp) ?_
              refine AllReadyH.cons (o := { dst := some 65, op := Op.call { callee := Callee.value (Operand.func 26), args := #[Operand.tmp 60, Operand.tmp 62, Operand.tmp 64, Operand.const (Value.bool true)], argTypes := #[47, 3, 3, 4] }, type := 4, pos := "law.go:45", after := #[{ on := 6, ground := Ground.data }, { on := 8, ground := Ground.data }, { on := 10, ground := Ground.data }, { on := 5, ground := Ground.chain }], guard := none }) rfl (fun K hK => ?_) AllReadyH.nil
              go_simp
              refine (rset_at HRR.out f k true).mono ?_
              rintro e y2 hs
              have HS2 := Lib.hid hs
              obtain ⟨rfl, -, hk9⟩ := hs
              rw [decide_eq_true hfit]
              go_wp2_with fail
              have HF : Hid (MPlay w b m1 m2 c t wb n (if k = 1 then ins f z1 else z1) (if k = 2 then ins f z2 else z2) y2 ∧ y2.heap[sb]? = some (stepObj (0, f, k))) := Lib.hid ⟨HR.out.mark hfit hk6 HP.out HS2.out, (HK8.out.trans (hk9.weaken (by simp))).heap HS.out (by simp; have := HL.out; omega)⟩
              have hS := HBx.out _ (HK8.out.trans (hk9.weaken (by simp)))
              refine shut_grow (fun x => x = y2) hK (fun _ h => by rw [h]; exact ⟨hk9, hS⟩) rfl (fun hHeld => ?_)
              clear hK K hS hk9
              refine wpAnyH_take (i := 12) (oi := { dst := some 66, op := Op.move (Operand.tmp 65), type := 4, pos := "law.go:45", after := #[{ on := 11, ground := Ground.data }, { on := 11, ground := Ground.chain }], guard := none }) (v := ?_) rfl (by kernel_rfl) (by kernel_rfl) (by kernel_rfl) (fun _ _ _ h => h) (Or.inl ⟨by rfl, ?_⟩) (by assumption) ?_
              rotate_left
              focus (intro w hSw; (try dsimp only at hSw); go_simp <;> with_reducible rfl)
              try simp only [Act.put, List.setIfInBounds_toArray, List.set_cons_zero, List.set_cons_succ]
              refine wpAnyH_take (i := 13) (oi := { dst := some 67, op := Op.move (Operand.tmp 11), type := 4, pos := "law.go:45", after := #[{ on := 12, ground := Ground.guard }], guard := some (12, true) }) (v := ?_) rfl (by kernel_rfl) (by kernel_rfl) (by kernel_rfl) (fun _ _ _ h => h) (Or.inl ⟨by rfl, ?_⟩) (by assumption) ?_
              rotate_left
              focus (intro w hSw; (try dsimp only at hSw); go_simp <;> with_reducible rfl)
              try simp only [Act.put, List.setIfInBounds_toArray, List.set_cons_zero, List.set_cons_succ]
              refine wpAnyH_take (i := 14) (oi := { dst := some 68, op := Op.unOp UnOp.not 4 (Operand.tmp 67), type := 4, pos := "law.go:45", after := #[{ on := 13, ground := Ground.data }, { on := 12, ground := Ground.guard }], guard := some (12, true) }) (v := ?_) rfl (by kernel_rfl) (by kernel_rfl) (by kernel_rfl) (fun _ _ _ h => h) (Or.inl ⟨by rfl, ?_⟩) (by assumption) ?_
              rotate_left
              focus (intro w hSw; (try dsimp only at hSw); go_simp <;> with_reducible rfl)
              try simp only [Act.put, List.setIfInBounds_toArray, List.set_cons_zero, List.set_cons_succ]
              refine wpAnyH_take (i := 15) (oi := { dst := some 69, op := Op.pick (Operand.tmp 66) (Operand.tmp 68) (Operand.const (Value.bool false)), type := 4, pos := "law.go:45", after := #[{ on := 12, ground := Ground.data }, { on := 14, ground := Ground.data }], guard := none }) (v := ?_) rfl (by kernel_rfl) (by kernel_rfl) (by kernel_rfl) (fun _ _ _ h => h) (Or.inl ⟨by rfl, ?_⟩) (by assumption) ?_
              rotate_left
              focus (intro w hSw; (try dsimp only at hSw); go_simp <;> with_reducible rfl)
              try simp only [Act.put, List.setIfInBounds_toArray, List.set_cons_zero, List.set_cons_succ]
              refine wpAnyH_take (i := 16) (oi := { dst := some 70, op := Op.binOp BinOp.neq 4 (Operand.tmp 59) (Operand.tmp 69) 4, type := 4, pos := "law.go:45", after := #[{ on := 5, ground := Ground.data }, { on := 15, ground := Ground.data }], guard := none }) (v := ?_) rfl (by kernel_rfl) (by kernel_rfl) (by kernel_rfl) (fun _ _ _ h => h) (Or.inl ⟨by rfl, ?_⟩) (by assumption) ?_
              rotate_left
              focus (intro w hSw; (try dsimp only at hSw); go_simp <;> with_reducible rfl)
              try simp only [Act.put, List.setIfInBounds_toArray, List.set_cons_zero, List.set_cons_succ]
              refine wpAnyH_done (by kernel_rfl) ?_ _
              clear hHeld
              go_wp2_with fail
              go_meet
              case rel => exact ⟨_, _, HF⟩
            · have hno : selM k (some m1) (some m2) = none ∨ (∃ b' n', Value.pointer (some ⟨b, 0, none⟩) = .pointer (some ⟨b', 0, none⟩) ∧ w5.drew.cell? ⟨b', 0, none⟩ = some (.int .i64 n') ∧ (f < 0 ∨ n' ≤ f)) := no_fit (HR.out.step hk5.drew).marks hfit
              go_wp2_with fail
              have hk6 := hk5.drew
              refine wp_region_held_drew (S := fun x => Keep [m1, m2, c, t] wx x ∧ x.cell? ⟨wb, 0, none⟩ = some (.slice (some ⟨c, 0, none⟩) n n) ∧ x.cell? ⟨wb, 1, none⟩ = some (.slice (some ⟨t, 0, none⟩) n n) ∧ x.cell? ⟨sb, 1, none⟩ = some (.int .i64 f) ∧ x.cell? ⟨sb, 2, none⟩ = some (.int .i64 k)) (by kernel_rfl) ⟨hk6.weaken (by simp), HBx.out _ (hk6.weaken (by simp))⟩ (fun hHeld => ?_)
              skip
              refine wpAnyH_take (i := 0) (oi := { dst := some 54, op := Op.move (Operand.tmp 6), type := 24, pos := "law.go:45", after := #[], guard := none }) (v := ?_) rfl (by kernel_rfl) (by kernel_rfl) (by kernel_rfl) (fun _ _ _ h => h) (Or.inl ⟨by rfl, ?_⟩) (by assumption) ?_
              rotate_left
              focus (intro w hSw; (try dsimp only at hSw); go_simp <;> with_reducible rfl)
              try simp only [Act.put, List.setIfInBounds_toArray, List.set_cons_zero, List.set_cons_succ]
              refine wpAnyH_take (i := 1) (oi := { dst := some 55, op := Op.fieldAddr 23 (Operand.tmp 10) 1, type := 0, pos := "law.go:45", after := #[], guard := none }) (v := ?_) rfl (by kernel_rfl) (by kernel_rfl) (by kernel_rfl) (fun _ _ _ h => h) (Or.inl ⟨by rfl, ?_⟩) (by assumption) ?_
              rotate_left
              focus (intro w hSw; (try dsimp only at hSw); go_simp <;> with_reducible rfl)
              try simp only [Act.put, List.setIfInBounds_toArray, List.set_cons_zero, List.set_cons_succ]
              refine wpAnyH_take (i := 2) (oi := { dst := some 56, op := Op.load 3 (Operand.tmp 55), type := 3, pos := "law.go:45", after := #[{ on := 1, ground := Ground.data }], guard := none }) (v := ?_) rfl (by kernel_rfl) (by kernel_rfl) (by kernel_rfl) (fun _ _ _ h => h) (Or.inl ⟨by rfl, ?_⟩) (by assumption) ?_
              rotate_left
              focus (intro w hSw; (try dsimp only at hSw); go_simp <;> with_reducible rfl)
              try simp only [Act.put, List.setIfInBounds_toArray, List.set_cons_zero, List.set_cons_succ]
              refine wpAnyH_take (i := 3) (oi := { dst := some 57, op := Op.fieldAddr 23 (Operand.tmp 10) 2, type := 0, pos := "law.go:45", after := #[], guard := none }) (v := ?_) rfl (by kernel_rfl) (by kernel_rfl) (by kernel_rfl) (fun _ _ _ h => h) (Or.inl ⟨by rfl, ?_⟩) (by assumption) ?_
              rotate_left
              focus (intro w hSw; (try dsimp only at hSw); go_simp <;> with_reducible rfl)
              try simp only [Act.put, List.setIfInBounds_toArray, List.set_cons_zero, List.set_cons_succ]
              refine wpAnyH_take (i := 4) (oi := { dst := some 58, op := Op.load 3 (Operand.tmp 57), type := 3, pos := "law.go:45", after := #[{ on := 3, ground := Ground.data }], guard := none }) (v := ?_) rfl (by kernel_rfl) (by kernel_rfl) (by kernel_rfl) (fun _ _ _ h => h) (Or.inl ⟨by rfl, ?_⟩) (by assumption) ?_
              rotate_left
              focus (intro w hSw; (try dsimp only at hSw); go_simp <;> with_reducible rfl)
              try simp only [Act.put, List.setIfInBounds_toArray, List.set_cons_zero, List.set_cons_succ]
              refine wpAnyH_take (i := 6) (oi := { dst := some 60, op := Op.load 47 (Operand.tmp 8), type := 47, pos := "law.go:45", after := #[], guard := none }) (v := ?_) rfl (by kernel_rfl) (by kernel_rfl) (by kernel_rfl) (fun _ _ _ h => h) (Or.inl ⟨by rfl, ?_⟩) (by assumption) ?_
              rotate_left
              focus (intro w hSw; (try dsimp only at hSw); go_simp <;> with_reducible rfl)
              try simp only [Act.put, List.setIfInBounds_toArray, List.set_cons_zero, List.set_cons_succ]
              refine wpAnyH_take (i := 7) (oi := { dst := some 61, op := Op.fieldAddr 23 (Operand.tmp 10) 1, type := 0, pos := "law.go:45", after := #[], guard := none }) (v := ?_) rfl (by kernel_rfl) (by kernel_rfl) (by kernel_rfl) (fun _ _ _ h => h) (Or.inl ⟨by rfl, ?_⟩) (by assumption) ?_
              rotate_left
              focus (intro w hSw; (try dsimp only at hSw); go_simp <;> with_reducible rfl)
              try simp only [Act.put, List.setIfInBounds_toArray, List.set_cons_zero, List.set_cons_succ]
              refine wpAnyH_take (i := 8) (oi := { dst := some 62, op := Op.load 3 (Operand.tmp 61), type := 3, pos := "law.go:45", after := #[{ on := 7, ground := Ground.data }], guard := none }) (v := ?_) rfl (by kernel_rfl) (by kernel_rfl) (by kernel_rfl) (fun _ _ _ h => h) (Or.inl ⟨by rfl, ?_⟩) (by assumption) ?_
              rotate_left
              focus (intro w hSw; (try dsimp only at hSw); go_simp <;> with_reducible rfl)
              try simp only [Act.put, List.setIfInBounds_toArray, List.set_cons_zero, List.set_cons_succ]
              refine wpAnyH_take (i := 9) (oi := { dst := some 63, op := Op.fieldAddr 23 (Operand.tmp 10) 2, type := 0, pos := "law.go:45", after := #[], guard := none }) (v := ?_) rfl (by kernel_rfl) (by kernel_rfl) (by kernel_rfl) (fun _ _ _ h => h) (Or.inl ⟨by rfl, ?_⟩) (by assumption) ?_
              rotate_left
              focus (intro w hSw; (try dsimp only at hSw); go_simp <;> with_reducible rfl)
              try simp only [Act.put, List.setIfInBounds_toArray, List.set_cons_zero, List.set_cons_succ]
              refine wpAnyH_take (i := 10) (oi := { dst := some 64, op := Op.load 3 (Operand.tmp 63), type := 3, pos := "law.go:45", after := #[{ on := 9, ground := Ground.data }], guard := none }) (v := ?_) rfl (by kernel_rfl) (by kernel_rfl) (by kernel_rfl) (fun _ _ _ h => h) (Or.inl ⟨by rfl, ?_⟩) (by assumption) ?_
              rotate_left
              focus (intro w hSw; (try dsimp only at hSw); go_simp <;> with_reducible rfl)
              try simp only [Act.put, List.setIfInBounds_toArray, List.set_cons_zero, List.set_cons_succ]
              refine wpAnyH_ready (rs := [5]) (by kernel_rfl) (by simp) ?_
              refine AllReadyH.cons (o := { dst := some 59, op := Op.call { callee := Callee.value (Operand.func 12), args := #[Operand.tmp 54, Operand.tmp 56, Operand.tmp 58], argTypes := #[24, 3, 3] }, type := 4, pos := "law.go:45", after := #[{ on := 0, ground := Ground.data }, { on := 2, ground := Ground.data }, { on := 4, ground := Ground.data }], guard := none }) rfl (fun K hK => ?_) AllReadyH.nil
              go_simp
              refine (mmark_no (HR.out.step hk6).marks.sets f k hno).mono ?_
              rintro e y1 ⟨rfl, rfl⟩
              have HRR := Lib.hid (HR.out.step hk6).ref
              go_wp2_with fail
              refine shut_grow (fun x => Keep [m1, m2, c, t] wx x ∧ x.cell? ⟨wb, 0, none⟩ = some (.slice (some ⟨c, 0, none⟩) n n) ∧ x.cell? ⟨wb, 1, none⟩ = some (.slice (some ⟨t, 0, none⟩) n n) ∧ x.cell? ⟨sb, 1, none⟩ = some (.int .i64 f) ∧ x.cell? ⟨sb, 2, none⟩ = some (.int .i64 k)) hK (fun _ h => h) hHeld (fun hHeld => ?_)
              clear hK K
              skip
              refine wpAnyH_ready (rs := [11]) (by kernel_rfl) (by simp) ?_
              refine AllReadyH.cons (o := { dst := some 65, op := Op.call { callee := Callee.value (Operand.func 26), args := #[Operand.tmp 60, Operand.tmp 62, Operand.tmp 64, Operand.const (Value.bool true)], argTypes := #[47, 3, 3, 4] }, type := 4, pos := "law.go:45", after := #[{ on := 6, ground := Ground.data }, { on := 8, ground := Ground.data }, { on := 10, ground := Ground.data }, { on := 5, ground := Ground.chain }], guard := none }) rfl (fun K hK => ?_) AllReadyH.nil
              go_simp
              refine (rset_at HRR.out f k true).mono ?_
              rintro e y2 hs
              have HS2 := Lib.hid hs
              obtain ⟨rfl, -, hk9⟩ := hs
              rw [decide_eq_false hfit]
              go_wp2_with fail
              have HF : Hid (MPlay w b m1 m2 c t wb n z1 z2 y2 ∧ y2.heap[sb]? = some (stepObj (0, f, k))) := Lib.hid ⟨HR.out.unmark hfit hk6 HS2.out, ((hk6.weaken (l' := [m1, m2, c, t]) (by simp)).trans (hk9.weaken (by simp))).heap HS.out (by simp; have := HL.out; omega)⟩
              have hS := HBx.out _ ((hk6.weaken (l' := [m1, m2, c, t]) (by simp)).trans (hk9.weaken (by simp)))
              refine shut_grow (fun x => x = y2) hK (fun _ h => by rw [h]; exact ⟨(hk6.weaken (l' := [m1, m2, c, t]) (by simp)).trans (hk9.weaken (by simp)), hS⟩) rfl (fun hHeld => ?_)
              clear hK K hS hk9
              refine wpAnyH_take (i := 12) (oi := { dst := some 66, op := Op.move (Operand.tmp 65), type := 4, pos := "law.go:45", after := #[{ on := 11, ground := Ground.data }, { on := 11, ground := Ground.chain }], guard := none }) (v := ?_) rfl (by kernel_rfl) (by kernel_rfl) (by kernel_rfl) (fun _ _ _ h => h) (Or.inl ⟨by rfl, ?_⟩) (by assumption) ?_
              rotate_left
              focus (intro w hSw; (try dsimp only at hSw); go_simp <;> with_reducible rfl)
              try simp only [Act.put, List.setIfInBounds_toArray, List.set_cons_zero, List.set_cons_succ]
              refine wpAnyH_take (i := 13) (oi := { dst := some 67, op := Op.move (Operand.tmp 11), type := 4, pos := "law.go:45", after := #[{ on := 12, ground := Ground.guard }], guard := some (12, true) }) (v := undef) rfl (by kernel_rfl) (by kernel_rfl) (by kernel_rfl) (fun _ _ _ h => h) (Or.inr ⟨by rfl, rfl⟩) (by assumption) ?_
              try simp only [Act.put, List.setIfInBounds_toArray, List.set_cons_zero, List.set_cons_succ]
              refine wpAnyH_take (i := 14) (oi := { dst := some 68, op := Op.unOp UnOp.not 4 (Operand.tmp 67), type := 4, pos := "law.go:45", after := #[{ on := 13, ground := Ground.data }, { on := 12, ground := Ground.guard }], guard := some (12, true) }) (v := undef) rfl (by kernel_rfl) (by kernel_rfl) (by kernel_rfl) (fun _ _ _ h => h) (Or.inr ⟨by rfl, rfl⟩) (by assumption) ?_
              try simp only [Act.put, List.setIfInBounds_toArray, List.set_cons_zero, List.set_cons_succ]
              refine wpAnyH_take (i := 15) (oi := { dst := some 69, op := Op.pick (Operand.tmp 66) (Operand.tmp 68) (Operand.const (Value.bool false)), type := 4, pos := "law.go:45", after := #[{ on := 12, ground := Ground.data }, { on := 14, ground := Ground.data }], guard := none }) (v := ?_) rfl (by kernel_rfl) (by kernel_rfl) (by kernel_rfl) (fun _ _ _ h => h) (Or.inl ⟨by rfl, ?_⟩) (by assumption) ?_
              rotate_left
              focus (intro w hSw; (try dsimp only at hSw); go_simp <;> with_reducible rfl)
              try simp only [Act.put, List.setIfInBounds_toArray, List.set_cons_zero, List.set_cons_succ]
              refine wpAnyH_take (i := 16) (oi := { dst := some 70, op := Op.binOp BinOp.neq 4 (Operand.tmp 59) (Operand.tmp 69) 4, type := 4, pos := "law.go:45", after := #[{ on := 5, ground := Ground.data }, { on := 15, ground := Ground.data }], guard := none }) (v := ?_) rfl (by kernel_rfl) (by kernel_rfl) (by kernel_rfl) (fun _ _ _ h => h) (Or.inl ⟨by rfl, ?_⟩) (by assumption) ?_
              rotate_left
              focus (intro w hSw; (try dsimp only at hSw); go_simp <;> with_reducible rfl)
              try simp only [Act.put, List.setIfInBounds_toArray, List.set_cons_zero, List.set_cons_succ]
              refine wpAnyH_done (by kernel_rfl) ?_ _
              clear hHeld
              go_wp2_with fail
              go_meet
              case rel => exact ⟨_, _, HF⟩
        · by_cases e1 : kd = 1
          · subst e1
            go_wp2_with fail
            refine (mdrop_at HR.out.marks f k).mono ?_
            rintro e w5 ⟨rfl, hM, hK⟩
            have HM := Lib.hid (And.intro hM hK)
            have hR5 := Lib.hid (HR.out.ref.keep hK (by simp; exact HR.out.ne.1.2) (by simp; exact HR.out.ne.2.1.2))
            have HKA := Lib.hid (hK.weaken (l' := [m1, m2, c, t]) (by simp))
            clear d0 d1 q0 q1 q2 hM hK
            obtain ⟨d0, d1, q1, q2⟩ := HBx.out _ HKA.out
            go_wp2_with fail
            refine (rset_at hR5.out f k false).mono ?_
            rintro e wx2 ⟨rfl, hR6, hK6⟩
            have HF : Hid (MPlay w b m1 m2 c t wb n (if k = 1 then z1.filter (· ≠ f) else z1) (if k = 2 then z2.filter (· ≠ f) else z2) wx2 ∧ wx2.heap[sb]? = some (stepObj (1, f, k))) := Lib.hid (by
              have p1 := HR.out.span1
              have p2 := HR.out.span2
              refine ⟨HR.out.both HM.out.1 HM.out.2 (hR6.ext ?_ ?_) hK6 ?_ ?_, (HKA.out.trans (hK6.weaken (by simp))).heap HS.out (by simp; have := HL.out; omega)⟩
              · exact fun j hj => drop_alike (.inl rfl) (by omega)
              · exact fun j hj => drop_alike (.inr rfl) (by omega)
              · intro z hz
                split at hz
                · exact p1 z (List.mem_filter.1 hz).1
                · exact p1 z hz
              · intro z hz
                split at hz
                · exact p2 z (List.mem_filter.1 hz).1
                · exact p2 z hz)
            clear d0 d1 q1 q2 hR6 hK6
            go_wp2_with fail
            go_meet
            case rel => exact ⟨_, _, HF⟩
          · by_cases e2 : kd = 2
            · subst e2
              go_wp2_with fail
              refine (mclear_at HR.out.marks k).mono ?_
              rintro e w5 ⟨rfl, hM, hK⟩
              have HM := Lib.hid (And.intro hM hK)
              have HKA := Lib.hid (hK.weaken (l' := [m1, m2, c, t]) (by simp))
              have HR5 := Lib.hid (HR.out.ref.keep hK (by simp; exact HR.out.ne.1.2) (by simp; exact HR.out.ne.2.1.2))
              clear hM hK d0 d1 q0 q1 q2
              go_wp2_with fail
              go_loopw [12] (fun i wq => ∃ j : Nat, j ≤ n ∧ i = .int .i64 j ∧ Hid (RMarks wq c t n (if k = 1 then z1.filter (fun z => decide ((j : Int) ≤ z)) else z1) (if k = 2 then z2.filter (fun z => decide ((j : Int) ≤ z)) else z2) ∧ Keep [c, t] w5 wq)) (fun i _ => n - (intOf i).toNat)
              case atStart =>
                refine ⟨0, by omega, rfl, Lib.hid ⟨HR5.out.ext ?_ ?_, Keep.refl _ _⟩⟩
                · intro j _; split <;> simp
                · intro j _; split <;> simp
              case round =>
                obtain ⟨j, hj, rfl, hQ⟩ := hrel
                rename World => wq
                obtain ⟨d0, d1, q1, q2⟩ := HBx.out _ (HKA.out.trans (hQ.out.2.weaken (by simp)))
                by_cases hjn : j < n
                · go_wp2_with fail
                  refine (rset_at hQ.out.1 j k false).mono ?_
                  rintro e wp ⟨rfl, hR6, hK6⟩
                  have HQ : Hid (RMarks wp c t n (if k = 1 then z1.filter (fun z => decide (((j + 1 : Nat) : Int) ≤ z)) else z1) (if k = 2 then z2.filter (fun z => decide (((j + 1 : Nat) : Int) ≤ z)) else z2) ∧ Keep [c, t] w5 wp) := Lib.hid
                    ⟨hR6.ext (fun i hi => clear_alike (.inl rfl) (by omega) (by omega)) (fun i hi => clear_alike (.inr rfl) (by omega) (by omega)), hQ.out.2.trans hK6⟩
                  clear hR6 hK6 d0 d1 q1 q2
                  go_wp2_with fail
                  go_roundw
                  case rel => exact ⟨j + 1, by omega, by go_num, HQ⟩
                  case measure => simp [intOf]; omega
                · obtain rfl : j = n := by omega
                  have HF : Hid (MPlay w b m1 m2 c t wb j (if k = 1 then [] else z1) (if k = 2 then [] else z2) wq ∧ wq.heap[sb]? = some (stepObj (2, f, k))) := Lib.hid (by
                    have p1 := HR.out.span1
                    have p2 := HR.out.span2
                    refine ⟨HR.out.both HM.out.1 HM.out.2 (hQ.out.1.ext ?_ ?_) hQ.out.2 ?_ ?_, (HKA.out.trans (hQ.out.2.weaken (by simp))).heap HS.out (by simp; have := HL.out; omega)⟩
                    · intro i hi; split <;> (simp; try omega)
                    · intro i hi; split <;> (simp; try omega)
                    · intro z hz; split at hz; cases hz; exact p1 z hz
                    · intro z hz; split at hz; cases hz; exact p2 z hz)
                  clear hQ d0 d1 q1 q2
                  go_wp2_with fail
                  go_meet
                  case rel => exact ⟨_, _, HF⟩
            · have e0' : (kd == 0) = false := beq_eq_false_iff_ne.2 e0
              have e1' : (kd == 1) = false := beq_eq_false_iff_ne.2 e1
              have e2' : (kd == 2) = false := beq_eq_false_iff_ne.2 e2
              have HF := Lib.hid (And.intro HR.out HS.out)
              clear e0 e1 e2
              go_wp2_with fail
              go_meet
              case rel => exact ⟨_, _, HF⟩
      case rest =>
        obtain ⟨y1, y2, HN⟩ := hcut
        have HB := Lib.hid (fun x (hx : Keep [] wc x) => (show x.cell? ⟨wb, 0, none⟩ = some (.slice (some ⟨c, 0, none⟩) n n) ∧ x.cell? ⟨wb, 1, none⟩ = some (.slice (some ⟨t, 0, none⟩) n n) ∧ x.cell? ⟨sb, 1, none⟩ = some (.int .i64 f) ∧ x.cell? ⟨sb, 2, none⟩ = some (.int .i64 k) from by
          obtain ⟨d0, d1⟩ := HN.out.1.boxes
          obtain ⟨q0, q1, q2⟩ := stepObj_cells HN.out.2
          exact ⟨hx.cell d0 (by simp), hx.cell d1 (by simp), hx.cell q1 (by simp), hx.cell q2 (by simp)⟩))
        obtain ⟨x1, hx1⟩ : ∃ x1, decide (f ∈ y1) = x1 := ⟨_, rfl⟩
        obtain ⟨x2, hx2⟩ : ∃ x2, decide (f ∈ y2) = x2 := ⟨_, rfl⟩
        obtain ⟨xk, hxk⟩ : ∃ xk, decide (f ∈ sel k y1 y2) = xk := ⟨_, rfl⟩
        have C1 := Lib.hid (fun x (hx : Keep [] wc x) => by
          have H := HN.out.1.step hx
          have := mhas_any H.marks.sets (.inr ⟨m1, rfl, H.marks.one⟩) (.inr ⟨m2, rfl, H.marks.two⟩) f k
          rw [hxk] at this
          exact this)
        have C2 := Lib.hid (fun x (hx : Keep [] wc x) => by
          have := rhas_at (HN.out.1.step hx).ref f k
          rw [HN.out.1.rhas, hxk] at this
          exact this)
        have C3 := Lib.hid (fun x (hx : Keep [] wc x) => by
          have H := HN.out.1.step hx
          have := mwatched_any H.marks.sets (.inr ⟨m1, rfl, H.marks.one⟩) (.inr ⟨m2, rfl, H.marks.two⟩) f
          rw [hx1, hx2] at this
          exact this)
        have C4 := Lib.hid (fun x (hx : Keep [] wc x) => by
          have := rhas_at (HN.out.1.step hx).ref f 1
          rw [HN.out.1.rhas, sel_one, hx1] at this
          exact this)
        have C5 := Lib.hid (fun x (hx : Keep [] wc x) => by
          have := rhas_at (HN.out.1.step hx).ref f 2
          rw [HN.out.1.rhas, sel_two, hx2] at this
          exact this)
        unfold rval at C2 C4 C5
        clear hx1 hx2 hxk
        have hkk : (xk != xk) = false := by simp
        have h22 : (x2 != x2) = false := by simp
        cases x1
        · skip
          go_wp2_with fail
          refine wp_region_held_drew (S := fun x => Keep [] wc x ∧ x.cell? ⟨wb, 0, none⟩ = some (.slice (some ⟨c, 0, none⟩) n n) ∧ x.cell? ⟨wb, 1, none⟩ = some (.slice (some ⟨t, 0, none⟩) n n) ∧ x.cell? ⟨sb, 1, none⟩ = some (.int .i64 f) ∧ x.cell? ⟨sb, 2, none⟩ = some (.int .i64 k)) (by kernel_rfl) ⟨(Keep.refl [] wc).drew, HB.out _ (Keep.refl [] wc).drew⟩ (fun hHeld => ?_)
          skip
          refine wpAnyH_take (i := 0) (oi := { dst := some 101, op := Op.move (Operand.tmp 6), type := 24, pos := "law.go:57", after := #[], guard := none }) (v := ?_) rfl (by kernel_rfl) (by kernel_rfl) (by kernel_rfl) (fun _ _ _ h => h) (Or.inl ⟨by rfl, ?_⟩) (by assumption) ?_
          rotate_left
          focus (intro w hSw; (try dsimp only at hSw); go_simp <;> with_reducible rfl)
          try simp only [Act.put, List.setIfInBounds_toArray, List.set_cons_zero, List.set_cons_succ]
          refine wpAnyH_take (i := 1) (oi := { dst := some 102, op := Op.fieldAddr 23 (Operand.tmp 10) 1, type := 0, pos := "law.go:57", after := #[], guard := none }) (v := ?_) rfl (by kernel_rfl) (by kernel_rfl) (by kernel_rfl) (fun _ _ _ h => h) (Or.inl ⟨by rfl, ?_⟩) (by assumption) ?_
          rotate_left
          focus (intro w hSw; (try dsimp only at hSw); go_simp <;> with_reducible rfl)
          try simp only [Act.put, List.setIfInBounds_toArray, List.set_cons_zero, List.set_cons_succ]
          refine wpAnyH_take (i := 2) (oi := { dst := some 103, op := Op.load 3 (Operand.tmp 102), type := 3, pos := "law.go:57", after := #[{ on := 1, ground := Ground.data }], guard := none }) (v := ?_) rfl (by kernel_rfl) (by kernel_rfl) (by kernel_rfl) (fun _ _ _ h => h) (Or.inl ⟨by rfl, ?_⟩) (by assumption) ?_
          rotate_left
          focus (intro w hSw; (try dsimp only at hSw); go_simp <;> with_reducible rfl)
          try simp only [Act.put, List.setIfInBounds_toArray, List.set_cons_zero, List.set_cons_succ]
          refine wpAnyH_take (i := 3) (oi := { dst := some 104, op := Op.fieldAddr 23 (Operand.tmp 10) 2, type := 0, pos := "law.go:57", after := #[], guard := none }) (v := ?_) rfl (by kernel_rfl) (by kernel_rfl) (by kernel_rfl) (fun _ _ _ h => h) (Or.inl ⟨by rfl, ?_⟩) (by assumption) ?_
          rotate_left
          focus (intro w hSw; (try dsimp only at hSw); go_simp <;> with_reducible rfl)
          try simp only [Act.put, List.setIfInBounds_toArray, List.set_cons_zero, List.set_cons_succ]
          refine wpAnyH_take (i := 4) (oi := { dst := some 105, op := Op.load 3 (Operand.tmp 104), type := 3, pos := "law.go:57", after := #[{ on := 3, ground := Ground.data }], guard := none }) (v := ?_) rfl (by kernel_rfl) (by kernel_rfl) (by kernel_rfl) (fun _ _ _ h => h) (Or.inl ⟨by rfl, ?_⟩) (by assumption) ?_
          rotate_left
          focus (intro w hSw; (try dsimp only at hSw); go_simp <;> with_reducible rfl)
          try simp only [Act.put, List.setIfInBounds_toArray, List.set_cons_zero, List.set_cons_succ]
          refine wpAnyH_take (i := 6) (oi := { dst := some 107, op := Op.load 47 (Operand.tmp 8), type := 47, pos := "law.go:57", after := #[], guard := none }) (v := ?_) rfl (by kernel_rfl) (by kernel_rfl) (by kernel_rfl) (fun _ _ _ h => h) (Or.inl ⟨by rfl, ?_⟩) (by assumption) ?_
          rotate_left
          focus (intro w hSw; (try dsimp only at hSw); go_simp <;> with_reducible rfl)
          try simp only [Act.put, List.setIfInBounds_toArray, List.set_cons_zero, List.set_cons_succ]
          refine wpAnyH_take (i := 7) (oi := { dst := some 108, op := Op.fieldAddr 23 (Operand.tmp 10) 1, type := 0, pos := "law.go:57", after := #[], guard := none }) (v := ?_) rfl (by kernel_rfl) (by kernel_rfl) (by kernel_rfl) (fun _ _ _ h => h) (Or.inl ⟨by rfl, ?_⟩) (by assumption) ?_
          rotate_left
          focus (intro w hSw; (try dsimp only at hSw); go_simp <;> with_reducible rfl)
          try simp only [Act.put, List.setIfInBounds_toArray, List.set_cons_zero, List.set_cons_succ]
          refine wpAnyH_take (i := 8) (oi := { dst := some 109, op := Op.load 3 (Operand.tmp 108), type := 3, pos := "law.go:57", after := #[{ on := 7, ground := Ground.data }], guard := none }) (v := ?_) rfl (by kernel_rfl) (by kernel_rfl) (by kernel_rfl) (fun _ _ _ h => h) (Or.inl ⟨by rfl, ?_⟩) (by assumption) ?_
          rotate_left
          focus (intro w hSw; (try dsimp only at hSw); go_simp <;> with_reducible rfl)
          try simp only [Act.put, List.setIfInBounds_toArray, List.set_cons_zero, List.set_cons_succ]
          refine wpAnyH_take (i := 9) (oi := { dst := some 110, op := Op.fieldAddr 23 (Operand.tmp 10) 2, type := 0, pos := "law.go:57", after := #[], guard := none }) (v := ?_) rfl (by kernel_rfl) (by kernel_rfl) (by kernel_rfl) (fun _ _ _ h => h) (Or.inl ⟨by rfl, ?_⟩) (by assumption) ?_
          rotate_left
          focus (intro w hSw; (try dsimp only at hSw); go_simp <;> with_reducible rfl)
          try simp only [Act.put, List.setIfInBounds_toArray, List.set_cons_zero, List.set_cons_succ]
          refine wpAnyH_take (i := 10) (oi := { dst := some 111, op := Op.load 3 (Operand.tmp 110), type := 3, pos := "law.go:57", after := #[{ on := 9, ground := Ground.data }], guard := none }) (v := ?_) rfl (by kernel_rfl) (by kernel_rfl) (by kernel_rfl) (fun _ _ _ h => h) (Or.inl ⟨by rfl, ?_⟩) (by assumption) ?_
          rotate_left
          focus (intro w hSw; (try dsimp only at hSw); go_simp <;> with_reducible rfl)
          try simp only [Act.put, List.setIfInBounds_toArray, List.set_cons_zero, List.set_cons_succ]
          refine wpAnyH_ready (rs := [5]) (by kernel_rfl) (by simp) ?_
          refine AllReadyH.cons (o := { dst := some 106, op := Op.call { callee := Callee.value (Operand.func 13), args := #[Operand.tmp 101, Operand.tmp 103, Operand.tmp 105], argTypes := #[24, 3, 3] }, type := 4, pos := "law.go:57", after := #[{ on := 0, ground := Ground.data }, { on := 2, ground := Ground.data }, { on := 4, ground := Ground.data }], guard := none }) rfl (fun K hK => ?_) AllReadyH.nil
          go_simp
          refine (C1.out _ hHeld.1).mono ?_
          rintro e w' ⟨rfl, rfl⟩
          go_wp2_with fail
          refine shut_grow (fun x => Keep [] wc x ∧ x.cell? ⟨wb, 0, none⟩ = some (.slice (some ⟨c, 0, none⟩) n n) ∧ x.cell? ⟨wb, 1, none⟩ = some (.slice (some ⟨t, 0, none⟩) n n) ∧ x.cell? ⟨sb, 1, none⟩ = some (.int .i64 f) ∧ x.cell? ⟨sb, 2, none⟩ = some (.int .i64 k)) hK (fun _ h => h) hHeld (fun hHeld => ?_)
          clear hK K
          skip
          refine wpAnyH_ready (rs := [11]) (by kernel_rfl) (by simp) ?_
          refine AllReadyH.cons (o := { dst := some 112, op := Op.call { callee := Callee.value (Operand.func 25), args := #[Operand.tmp 107, Operand.tmp 109, Operand.tmp 111], argTypes := #[47, 3, 3] }, type := 4, pos := "law.go:57", after := #[{ on := 6, ground := Ground.data }, { on := 8, ground := Ground.data }, { on := 10, ground := Ground.data }, { on := 5, ground := Ground.chain }], guard := none }) rfl (fun K hK => ?_) AllReadyH.nil
          go_simp
          refine (C2.out _ hHeld.1).mono ?_
          rintro e w' ⟨rfl, hk2⟩
          go_wp2_with fail
          have hh2 := hHeld.1.trans hk2
          clear hHeld
          refine shut_grow (fun x => Keep [] wc x ∧ x.cell? ⟨wb, 0, none⟩ = some (.slice (some ⟨c, 0, none⟩) n n) ∧ x.cell? ⟨wb, 1, none⟩ = some (.slice (some ⟨t, 0, none⟩) n n) ∧ x.cell? ⟨sb, 1, none⟩ = some (.int .i64 f) ∧ x.cell? ⟨sb, 2, none⟩ = some (.int .i64 k)) hK (fun _ h => h) ⟨hh2, HB.out _ hh2⟩ (fun hHeld => ?_)
          clear hK K hh2 hk2
          refine wpAnyH_take (i := 12) (oi := { dst := some 113, op := Op.binOp BinOp.neq 4 (Operand.tmp 106) (Operand.tmp 112) 4, type := 4, pos := "law.go:57", after := #[{ on := 5, ground := Ground.data }, { on := 11, ground := Ground.data }], guard := none }) (v := ?_) rfl (by kernel_rfl) (by kernel_rfl) (by kernel_rfl) (fun _ _ _ h => h) (Or.inl ⟨by rfl, ?_⟩) (by assumption) ?_
          rotate_left
          focus (intro w hSw; (try dsimp only at hSw); go_simp <;> with_reducible rfl)
          try simp only [Act.put, List.setIfInBounds_toArray, List.set_cons_zero, List.set_cons_succ]
          refine wpAnyH_take (i := 13) (oi := { dst := some 114, op := Op.move (Operand.tmp 113), type := 4, pos := "law.go:57", after := #[{ on := 12, ground := Ground.data }, { on := 11, ground := Ground.chain }], guard := none }) (v := ?_) rfl (by kernel_rfl) (by kernel_rfl) (by kernel_rfl) (fun _ _ _ h => h) (Or.inl ⟨by rfl, ?_⟩) (by assumption) ?_
          rotate_left
          focus (intro w hSw; (try dsimp only at hSw); go_simp <;> with_reducible rfl)
          try simp only [Act.put, List.setIfInBounds_toArray, List.set_cons_zero, List.set_cons_succ]
          refine wpAnyH_take (i := 14) (oi := { dst := some 115, op := Op.move (Operand.tmp 6), type := 24, pos := "law.go:57", after := #[{ on := 13, ground := Ground.guard }], guard := some (13, false) }) (v := ?_) rfl (by kernel_rfl) (by kernel_rfl) (by kernel_rfl) (fun _ _ _ h => h) (Or.inl ⟨by rfl, ?_⟩) (by assumption) ?_
          rotate_left
          focus (intro w hSw; (try dsimp only at hSw); go_simp <;> with_reducible rfl)
          try simp only [Act.put, List.setIfInBounds_toArray, List.set_cons_zero, List.set_cons_succ]
          refine wpAnyH_take (i := 15) (oi := { dst := some 116, op := Op.fieldAddr 23 (Operand.tmp 10) 1, type := 0, pos := "law.go:57", after := #[{ on := 13, ground := Ground.guard }], guard := some (13, false) }) (v := ?_) rfl (by kernel_rfl) (by kernel_rfl) (by kernel_rfl) (fun _ _ _ h => h) (Or.inl ⟨by rfl, ?_⟩) (by assumption) ?_
          rotate_left
          focus (intro w hSw; (try dsimp only at hSw); go_simp <;> with_reducible rfl)
          try simp only [Act.put, List.setIfInBounds_toArray, List.set_cons_zero, List.set_cons_succ]
          refine wpAnyH_take (i := 16) (oi := { dst := some 117, op := Op.load 3 (Operand.tmp 116), type := 3, pos := "law.go:57", after := #[{ on := 15, ground := Ground.data }, { on := 13, ground := Ground.guard }], guard := some (13, false) }) (v := ?_) rfl (by kernel_rfl) (by kernel_rfl) (by kernel_rfl) (fun _ _ _ h => h) (Or.inl ⟨by rfl, ?_⟩) (by assumption) ?_
          rotate_left
          focus (intro w hSw; (try dsimp only at hSw); go_simp <;> with_reducible rfl)
          try simp only [Act.put, List.setIfInBounds_toArray, List.set_cons_zero, List.set_cons_succ]
          refine wpAnyH_take (i := 18) (oi := { dst := some 119, op := Op.load 47 (Operand.tmp 8), type := 47, pos := "law.go:57", after := #[{ on := 13, ground := Ground.guard }], guard := some (13, false) }) (v := ?_) rfl (by kernel_rfl) (by kernel_rfl) (by kernel_rfl) (fun _ _ _ h => h) (Or.inl ⟨by rfl, ?_⟩) (by assumption) ?_
          rotate_left
          focus (intro w hSw; (try dsimp only at hSw); go_simp <;> with_reducible rfl)
          try simp only [Act.put, List.setIfInBounds_toArray, List.set_cons_zero, List.set_cons_succ]
          refine wpAnyH_take (i := 19) (oi := { dst := some 120, op := Op.fieldAddr 23 (Operand.tmp 10) 1, type := 0, pos := "law.go:57", after := #[{ on := 13, ground := Ground.guard }], guard := some (13, false) }) (v := ?_) rfl (by kernel_rfl) (by kernel_rfl) (by kernel_rfl) (fun _ _ _ h => h) (Or.inl ⟨by rfl, ?_⟩) (by assumption) ?_
          rotate_left
          focus (intro w hSw; (try dsimp only at hSw); go_simp <;> with_reducible rfl)
          try simp only [Act.put, List.setIfInBounds_toArray, List.set_cons_zero, List.set_cons_succ]
          refine wpAnyH_take (i := 20) (oi := { dst := some 121, op := Op.load 3 (Operand.tmp 120), type := 3, pos := "law.go:57", after := #[{ on := 19, ground := Ground.data }, { on := 13, ground := Ground.guard }], guard := some (13, false) }) (v := ?_) rfl (by kernel_rfl) (by kernel_rfl) (by kernel_rfl) (fun _ _ _ h => h) (Or.inl ⟨by rfl, ?_⟩) (by assumption) ?_
          rotate_left
          focus (intro w hSw; (try dsimp only at hSw); go_simp <;> with_reducible rfl)
          try simp only [Act.put, List.setIfInBounds_toArray, List.set_cons_zero, List.set_cons_succ]
          refine wpAnyH_ready (rs := [17]) (by kernel_rfl) (by simp) ?_
          refine AllReadyH.cons (o := { dst := some 118, op := Op.call { callee := Callee.value (Operand.func 22), args := #[Operand.tmp 115, Operand.tmp 117], argTypes := #[24, 3] }, type := 4, pos := "law.go:57", after := #[{ on := 14, ground := Ground.data }, { on := 16, ground := Ground.data }, { on := 13, ground := Ground.chain }, { on := 13, ground := Ground.guard }], guard := some (13, false) }) rfl (fun K hK => ?_) AllReadyH.nil
          go_simp
          refine (C3.out _ hHeld.1).mono ?_
          rintro e w' ⟨rfl, rfl⟩
          go_wp2_with fail
          refine shut_grow (fun x => Keep [] wc x ∧ x.cell? ⟨wb, 0, none⟩ = some (.slice (some ⟨c, 0, none⟩) n n) ∧ x.cell? ⟨wb, 1, none⟩ = some (.slice (some ⟨t, 0, none⟩) n n) ∧ x.cell? ⟨sb, 1, none⟩ = some (.int .i64 f) ∧ x.cell? ⟨sb, 2, none⟩ = some (.int .i64 k)) hK (fun _ h => h) hHeld (fun hHeld => ?_)
          clear hK K
          skip
          refine wpAnyH_ready (rs := [21]) (by kernel_rfl) (by simp) ?_
          refine AllReadyH.cons (o := { dst := some 122, op := Op.call { callee := Callee.value (Operand.func 25), args := #[Operand.tmp 119, Operand.tmp 121, Operand.const (Value.int IntKind.i64 1)], argTypes := #[47, 3, 3] }, type := 4, pos := "law.go:57", after := #[{ on := 18, ground := Ground.data }, { on := 20, ground := Ground.data }, { on := 17, ground := Ground.chain }, { on := 13, ground := Ground.guard }], guard := some (13, false) }) rfl (fun K hK => ?_) AllReadyH.nil
          go_simp
          refine (C4.out _ hHeld.1).mono ?_
          rintro e w' ⟨rfl, hk2⟩
          go_wp2_with fail
          have hh2 := hHeld.1.trans hk2
          clear hHeld
          refine shut_grow (fun x => Keep [] wc x ∧ x.cell? ⟨wb, 0, none⟩ = some (.slice (some ⟨c, 0, none⟩) n n) ∧ x.cell? ⟨wb, 1, none⟩ = some (.slice (some ⟨t, 0, none⟩) n n) ∧ x.cell? ⟨sb, 1, none⟩ = some (.int .i64 f) ∧ x.cell? ⟨sb, 2, none⟩ = some (.int .i64 k)) hK (fun _ h => h) ⟨hh2, HB.out _ hh2⟩ (fun hHeld => ?_)
          clear hK K hh2 hk2
          refine wpAnyH_take (i := 22) (oi := { dst := some 123, op := Op.move (Operand.tmp 122), type := 4, pos := "law.go:57", after := #[{ on := 21, ground := Ground.data }, { on := 21, ground := Ground.chain }, { on := 13, ground := Ground.guard }], guard := some (13, false) }) (v := ?_) rfl (by kernel_rfl) (by kernel_rfl) (by kernel_rfl) (fun _ _ _ h => h) (Or.inl ⟨by rfl, ?_⟩) (by assumption) ?_
          rotate_left
          focus (intro w hSw; (try dsimp only at hSw); go_simp <;> with_reducible rfl)
          try simp only [Act.put, List.setIfInBounds_toArray, List.set_cons_zero, List.set_cons_succ]
          refine wpAnyH_take (i := 23) (oi := { dst := some 124, op := Op.load 47 (Operand.tmp 8), type := 47, pos := "law.go:57", after := #[{ on := 22, ground := Ground.guard }], guard := some (22, false) }) (v := ?_) rfl (by kernel_rfl) (by kernel_rfl) (by kernel_rfl) (fun _ _ _ h => h) (Or.inl ⟨by rfl, ?_⟩) (by assumption) ?_
          rotate_left
          focus (intro w hSw; (try dsimp only at hSw); go_simp <;> with_reducible rfl)
          try simp only [Act.put, List.setIfInBounds_toArray, List.set_cons_zero, List.set_cons_succ]
          refine wpAnyH_take (i := 24) (oi := { dst := some 125, op := Op.fieldAddr 23 (Operand.tmp 10) 1, type := 0, pos := "law.go:57", after := #[{ on := 22, ground := Ground.guard }], guard := some (22, false) }) (v := ?_) rfl (by kernel_rfl) (by kernel_rfl) (by kernel_rfl) (fun _ _ _ h => h) (Or.inl ⟨by rfl, ?_⟩) (by assumption) ?_
          rotate_left
          focus (intro w hSw; (try dsimp only at hSw); go_simp <;> with_reducible rfl)
          try simp only [Act.put, List.setIfInBounds_toArray, List.set_cons_zero, List.set_cons_succ]
          refine wpAnyH_take (i := 25) (oi := { dst := some 126, op := Op.load 3 (Operand.tmp 125), type := 3, pos := "law.go:57", after := #[{ on := 24, ground := Ground.data }, { on := 22, ground := Ground.guard }], guard := some (22, false) }) (v := ?_) rfl (by kernel_rfl) (by kernel_rfl) (by kernel_rfl) (fun _ _ _ h => h) (Or.inl ⟨by rfl, ?_⟩) (by assumption) ?_
          rotate_left
          focus (intro w hSw; (try dsimp only at hSw); go_simp <;> with_reducible rfl)
          try simp only [Act.put, List.setIfInBounds_toArray, List.set_cons_zero, List.set_cons_succ]
          refine wpAnyH_ready (rs := [26]) (by kernel_rfl) (by simp) ?_
          refine AllReadyH.cons (o := { dst := some 127, op := Op.call { callee := Callee.value (Operand.func 25), args := #[Operand.tmp 124, Operand.tmp 126, Operand.const (Value.int IntKind.i64 2)], argTypes := #[47, 3, 3] }, type := 4, pos := "law.go:57", after := #[{ on := 23, ground := Ground.data }, { on := 25, ground := Ground.data }, { on := 22, ground := Ground.chain }, { on := 22, ground := Ground.guard }], guard := some (22, false) }) rfl (fun K hK => ?_) AllReadyH.nil
          go_simp
          refine (C5.out _ hHeld.1).mono ?_
          rintro e w' ⟨rfl, hk2⟩
          go_wp2_with fail
          have hh2 := hHeld.1.trans hk2
          clear hHeld
          refine shut_grow (fun x => Keep [] wc x ∧ x.cell? ⟨wb, 0, none⟩ = some (.slice (some ⟨c, 0, none⟩) n n) ∧ x.cell? ⟨wb, 1, none⟩ = some (.slice (some ⟨t, 0, none⟩) n n) ∧ x.cell? ⟨sb, 1, none⟩ = some (.int .i64 f) ∧ x.cell? ⟨sb, 2, none⟩ = some (.int .i64 k)) hK (fun _ h => h) ⟨hh2, HB.out _ hh2⟩ (fun hHeld => ?_)
          clear hK K hh2 hk2
          refine wpAnyH_take (i := 27) (oi := { dst := some 128, op := Op.pick (Operand.tmp 123) (Operand.const (Value.bool true)) (Operand.tmp 127), type := 4, pos := "law.go:57", after := #[{ on := 22, ground := Ground.data }, { on := 26, ground := Ground.data }, { on := 13, ground := Ground.guard }], guard := some (13, false) }) (v := ?_) rfl (by kernel_rfl) (by kernel_rfl) (by kernel_rfl) (fun _ _ _ h => h) (Or.inl ⟨by rfl, ?_⟩) (by assumption) ?_
          rotate_left
          focus (intro w hSw; (try dsimp only at hSw); go_simp <;> with_reducible rfl)
          try simp only [Act.put, List.setIfInBounds_toArray, List.set_cons_zero, List.set_cons_succ]
          refine wpAnyH_take (i := 28) (oi := { dst := some 129, op := Op.binOp BinOp.neq 4 (Operand.tmp 118) (Operand.tmp 128) 4, type := 4, pos := "law.go:57", after := #[{ on := 17, ground := Ground.data }, { on := 27, ground := Ground.data }, { on := 13, ground := Ground.guard }], guard := some (13, false) }) (v := ?_) rfl (by kernel_rfl) (by kernel_rfl) (by kernel_rfl) (fun _ _ _ h => h) (Or.inl ⟨by rfl, ?_⟩) (by assumption) ?_
          rotate_left
          focus (intro w hSw; (try dsimp only at hSw); go_simp <;> with_reducible rfl)
          try simp only [Act.put, List.setIfInBounds_toArray, List.set_cons_zero, List.set_cons_succ]
          refine wpAnyH_take (i := 29) (oi := { dst := some 130, op := Op.pick (Operand.tmp 114) (Operand.const (Value.bool true)) (Operand.tmp 129), type := 4, pos := "law.go:57", after := #[{ on := 13, ground := Ground.data }, { on := 28, ground := Ground.data }], guard := none }) (v := ?_) rfl (by kernel_rfl) (by kernel_rfl) (by kernel_rfl) (fun _ _ _ h => h) (Or.inl ⟨by rfl, ?_⟩) (by assumption) ?_
          rotate_left
          focus (intro w hSw; (try dsimp only at hSw); go_simp <;> with_reducible rfl)
          try simp only [Act.put, List.setIfInBounds_toArray, List.set_cons_zero, List.set_cons_succ]
          refine wpAnyH_done (by kernel_rfl) ?_ _
          have HE := Lib.hid hHeld.1
          clear hHeld
          go_wp2_with fail
          go_roundw
          case rel => exact ⟨r + 1, _, _, by go_num, by omega, by omega, HN.out.1.step HE.out⟩
          case measure => simp [intOf]; omega
        · skip
          go_wp2_with fail
          refine wp_region_held_drew (S := fun x => Keep [] wc x ∧ x.cell? ⟨wb, 0, none⟩ = some (.slice (some ⟨c, 0, none⟩) n n) ∧ x.cell? ⟨wb, 1, none⟩ = some (.slice (some ⟨t, 0, none⟩) n n) ∧ x.cell? ⟨sb, 1, none⟩ = some (.int .i64 f) ∧ x.cell? ⟨sb, 2, none⟩ = some (.int .i64 k)) (by kernel_rfl) ⟨(Keep.refl [] wc).drew, HB.out _ (Keep.refl [] wc).drew⟩ (fun hHeld => ?_)
          skip
          refine wpAnyH_take (i := 0) (oi := { dst := some 101, op := Op.move (Operand.tmp 6), type := 24, pos := "law.go:57", after := #[], guard := none }) (v := ?_) rfl (by kernel_rfl) (by kernel_rfl) (by kernel_rfl) (fun _ _ _ h => h) (Or.inl ⟨by rfl, ?_⟩) (by assumption) ?_
          rotate_left
          focus (intro w hSw; (try dsimp only at hSw); go_simp <;> with_reducible rfl)
          try simp only [Act.put, List.setIfInBounds_toArray, List.set_cons_zero, List.set_cons_succ]
          refine wpAnyH_take (i := 1) (oi := { dst := some 102, op := Op.fieldAddr 23 (Operand.tmp 10) 1, type := 0, pos := "law.go:57", after := #[], guard := none }) (v := ?_) rfl (by kernel_rfl) (by kernel_rfl) (by kernel_rfl) (fun _ _ _ h => h) (Or.inl ⟨by rfl, ?_⟩) (by assumption) ?_
          rotate_left
          focus (intro w hSw; (try dsimp only at hSw); go_simp <;> with_reducible rfl)
          try simp only [Act.put, List.setIfInBounds_toArray, List.set_cons_zero, List.set_cons_succ]
          refine wpAnyH_take (i := 2) (oi := { dst := some 103, op := Op.load 3 (Operand.tmp 102), type := 3, pos := "law.go:57", after := #[{ on := 1, ground := Ground.data }], guard := none }) (v := ?_) rfl (by kernel_rfl) (by kernel_rfl) (by kernel_rfl) (fun _ _ _ h => h) (Or.inl ⟨by rfl, ?_⟩) (by assumption) ?_
          rotate_left
          focus (intro w hSw; (try dsimp only at hSw); go_simp <;> with_reducible rfl)
          try simp only [Act.put, List.setIfInBounds_toArray, List.set_cons_zero, List.set_cons_succ]
          refine wpAnyH_take (i := 3) (oi := { dst := some 104, op := Op.fieldAddr 23 (Operand.tmp 10) 2, type := 0, pos := "law.go:57", after := #[], guard := none }) (v := ?_) rfl (by kernel_rfl) (by kernel_rfl) (by kernel_rfl) (fun _ _ _ h => h) (Or.inl ⟨by rfl, ?_⟩) (by assumption) ?_
          rotate_left
          focus (intro w hSw; (try dsimp only at hSw); go_simp <;> with_reducible rfl)
          try simp only [Act.put, List.setIfInBounds_toArray, List.set_cons_zero, List.set_cons_succ]
          refine wpAnyH_take (i := 4) (oi := { dst := some 105, op := Op.load 3 (Operand.tmp 104), type := 3, pos := "law.go:57", after := #[{ on := 3, ground := Ground.data }], guard := none }) (v := ?_) rfl (by kernel_rfl) (by kernel_rfl) (by kernel_rfl) (fun _ _ _ h => h) (Or.inl ⟨by rfl, ?_⟩) (by assumption) ?_
          rotate_left
          focus (intro w hSw; (try dsimp only at hSw); go_simp <;> with_reducible rfl)
          try simp only [Act.put, List.setIfInBounds_toArray, List.set_cons_zero, List.set_cons_succ]
          refine wpAnyH_take (i := 6) (oi := { dst := some 107, op := Op.load 47 (Operand.tmp 8), type := 47, pos := "law.go:57", after := #[], guard := none }) (v := ?_) rfl (by kernel_rfl) (by kernel_rfl) (by kernel_rfl) (fun _ _ _ h => h) (Or.inl ⟨by rfl, ?_⟩) (by assumption) ?_
          rotate_left
          focus (intro w hSw; (try dsimp only at hSw); go_simp <;> with_reducible rfl)
          try simp only [Act.put, List.setIfInBounds_toArray, List.set_cons_zero, List.set_cons_succ]
          refine wpAnyH_take (i := 7) (oi := { dst := some 108, op := Op.fieldAddr 23 (Operand.tmp 10) 1, type := 0, pos := "law.go:57", after := #[], guard := none }) (v := ?_) rfl (by kernel_rfl) (by kernel_rfl) (by kernel_rfl) (fun _ _ _ h => h) (Or.inl ⟨by rfl, ?_⟩) (by assumption) ?_
          rotate_left
          focus (intro w hSw; (try dsimp only at hSw); go_simp <;> with_reducible rfl)
          try simp only [Act.put, List.setIfInBounds_toArray, List.set_cons_zero, List.set_cons_succ]
          refine wpAnyH_take (i := 8) (oi := { dst := some 109, op := Op.load 3 (Operand.tmp 108), type := 3, pos := "law.go:57", after := #[{ on := 7, ground := Ground.data }], guard := none }) (v := ?_) rfl (by kernel_rfl) (by kernel_rfl) (by kernel_rfl) (fun _ _ _ h => h) (Or.inl ⟨by rfl, ?_⟩) (by assumption) ?_
          rotate_left
          focus (intro w hSw; (try dsimp only at hSw); go_simp <;> with_reducible rfl)
          try simp only [Act.put, List.setIfInBounds_toArray, List.set_cons_zero, List.set_cons_succ]
          refine wpAnyH_take (i := 9) (oi := { dst := some 110, op := Op.fieldAddr 23 (Operand.tmp 10) 2, type := 0, pos := "law.go:57", after := #[], guard := none }) (v := ?_) rfl (by kernel_rfl) (by kernel_rfl) (by kernel_rfl) (fun _ _ _ h => h) (Or.inl ⟨by rfl, ?_⟩) (by assumption) ?_
          rotate_left
          focus (intro w hSw; (try dsimp only at hSw); go_simp <;> with_reducible rfl)
          try simp only [Act.put, List.setIfInBounds_toArray, List.set_cons_zero, List.set_cons_succ]
          refine wpAnyH_take (i := 10) (oi := { dst := some 111, op := Op.load 3 (Operand.tmp 110), type := 3, pos := "law.go:57", after := #[{ on := 9, ground := Ground.data }], guard := none }) (v := ?_) rfl (by kernel_rfl) (by kernel_rfl) (by kernel_rfl) (fun _ _ _ h => h) (Or.inl ⟨by rfl, ?_⟩) (by assumption) ?_
          rotate_left
          focus (intro w hSw; (try dsimp only at hSw); go_simp <;> with_reducible rfl)
          try simp only [Act.put, List.setIfInBounds_toArray, List.set_cons_zero, List.set_cons_succ]
          refine wpAnyH_ready (rs := [5]) (by kernel_rfl) (by simp) ?_
          refine AllReadyH.cons (o := { dst := some 106, op := Op.call { callee := Callee.value (Operand.func 13), args := #[Operand.tmp 101, Operand.tmp 103, Operand.tmp 105], argTypes := #[24, 3, 3] }, type := 4, pos := "law.go:57", after := #[{ on := 0, ground := Ground.data }, { on := 2, ground := Ground.data }, { on := 4, ground := Ground.data }], guard := none }) rfl (fun K hK => ?_) AllReadyH.nil
          go_simp
          refine (C1.out _ hHeld.1).mono ?_
          rintro e w' ⟨rfl, rfl⟩
          go_wp2_with fail
          refine shut_grow (fun x => Keep [] wc x ∧ x.cell? ⟨wb, 0, none⟩ = some (.slice (some ⟨c, 0, none⟩) n n) ∧ x.cell? ⟨wb, 1, none⟩ = some (.slice (some ⟨t, 0, none⟩) n n) ∧ x.cell? ⟨sb, 1, none⟩ = some (.int .i64 f) ∧ x.cell? ⟨sb, 2, none⟩ = some (.int .i64 k)) hK (fun _ h => h) hHeld (fun hHeld => ?_)
          clear hK K
          skip
          refine wpAnyH_ready (rs := [11]) (by kernel_rfl) (by simp) ?_
          refine AllReadyH.cons (o := { dst := some 112, op := Op.call { callee := Callee.value (Operand.func 25), args := #[Operand.tmp 107, Operand.tmp 109, Operand.tmp 111], argTypes := #[47, 3, 3] }, type := 4, pos := "law.go:57", after := #[{ on := 6, ground := Ground.data }, { on := 8, ground := Ground.data }, { on := 10, ground := Ground.data }, { on := 5, ground := Ground.chain }], guard := none }) rfl (fun K hK => ?_) AllReadyH.nil
          go_simp
          refine (C2.out _ hHeld.1).mono ?_
          rintro e w' ⟨rfl, hk2⟩
          go_wp2_with fail
          have hh2 := hHeld.1.trans hk2
          clear hHeld
          refine shut_grow (fun x => Keep [] wc x ∧ x.cell? ⟨wb, 0, none⟩ = some (.slice (some ⟨c, 0, none⟩) n n) ∧ x.cell? ⟨wb, 1, none⟩ = some (.slice (some ⟨t, 0, none⟩) n n) ∧ x.cell? ⟨sb, 1, none⟩ = some (.int .i64 f) ∧ x.cell? ⟨sb, 2, none⟩ = some (.int .i64 k)) hK (fun _ h => h) ⟨hh2, HB.out _ hh2⟩ (fun hHeld => ?_)
          clear hK K hh2 hk2
          refine wpAnyH_take (i := 12) (oi := { dst := some 113, op := Op.binOp BinOp.neq 4 (Operand.tmp 106) (Operand.tmp 112) 4, type := 4, pos := "law.go:57", after := #[{ on := 5, ground := Ground.data }, { on := 11, ground := Ground.data }], guard := none }) (v := ?_) rfl (by kernel_rfl) (by kernel_rfl) (by kernel_rfl) (fun _ _ _ h => h) (Or.inl ⟨by rfl, ?_⟩) (by assumption) ?_
          rotate_left
          focus (intro w hSw; (try dsimp only at hSw); go_simp <;> with_reducible rfl)
          try simp only [Act.put, List.setIfInBounds_toArray, List.set_cons_zero, List.set_cons_succ]
          refine wpAnyH_take (i := 13) (oi := { dst := some 114, op := Op.move (Operand.tmp 113), type := 4, pos := "law.go:57", after := #[{ on := 12, ground := Ground.data }, { on := 11, ground := Ground.chain }], guard := none }) (v := ?_) rfl (by kernel_rfl) (by kernel_rfl) (by kernel_rfl) (fun _ _ _ h => h) (Or.inl ⟨by rfl, ?_⟩) (by assumption) ?_
          rotate_left
          focus (intro w hSw; (try dsimp only at hSw); go_simp <;> with_reducible rfl)
          try simp only [Act.put, List.setIfInBounds_toArray, List.set_cons_zero, List.set_cons_succ]
          refine wpAnyH_take (i := 14) (oi := { dst := some 115, op := Op.move (Operand.tmp 6), type := 24, pos := "law.go:57", after := #[{ on := 13, ground := Ground.guard }], guard := some (13, false) }) (v := ?_) rfl (by kernel_rfl) (by kernel_rfl) (by kernel_rfl) (fun _ _ _ h => h) (Or.inl ⟨by rfl, ?_⟩) (by assumption) ?_
          rotate_left
          focus (intro w hSw; (try dsimp only at hSw); go_simp <;> with_reducible rfl)
          try simp only [Act.put, List.setIfInBounds_toArray, List.set_cons_zero, List.set_cons_succ]
          refine wpAnyH_take (i := 15) (oi := { dst := some 116, op := Op.fieldAddr 23 (Operand.tmp 10) 1, type := 0, pos := "law.go:57", after := #[{ on := 13, ground := Ground.guard }], guard := some (13, false) }) (v := ?_) rfl (by kernel_rfl) (by kernel_rfl) (by kernel_rfl) (fun _ _ _ h => h) (Or.inl ⟨by rfl, ?_⟩) (by assumption) ?_
          rotate_left
          focus (intro w hSw; (try dsimp only at hSw); go_simp <;> with_reducible rfl)
          try simp only [Act.put, List.setIfInBounds_toArray, List.set_cons_zero, List.set_cons_succ]
          refine wpAnyH_take (i := 16) (oi := { dst := some 117, op := Op.load 3 (Operand.tmp 116), type := 3, pos := "law.go:57", after := #[{ on := 15, ground := Ground.data }, { on := 13, ground := Ground.guard }], guard := some (13, false) }) (v := ?_) rfl (by kernel_rfl) (by kernel_rfl) (by kernel_rfl) (fun _ _ _ h => h) (Or.inl ⟨by rfl, ?_⟩) (by assumption) ?_
          rotate_left
          focus (intro w hSw; (try dsimp only at hSw); go_simp <;> with_reducible rfl)
          try simp only [Act.put, List.setIfInBounds_toArray, List.set_cons_zero, List.set_cons_succ]
          refine wpAnyH_take (i := 18) (oi := { dst := some 119, op := Op.load 47 (Operand.tmp 8), type := 47, pos := "law.go:57", after := #[{ on := 13, ground := Ground.guard }], guard := some (13, false) }) (v := ?_) rfl (by kernel_rfl) (by kernel_rfl) (by kernel_rfl) (fun _ _ _ h => h) (Or.inl ⟨by rfl, ?_⟩) (by assumption) ?_
          rotate_left
          focus (intro w hSw; (try dsimp only at hSw); go_simp <;> with_reducible rfl)
          try simp only [Act.put, List.setIfInBounds_toArray, List.set_cons_zero, List.set_cons_succ]
          refine wpAnyH_take (i := 19) (oi := { dst := some 120, op := Op.fieldAddr 23 (Operand.tmp 10) 1, type := 0, pos := "law.go:57", after := #[{ on := 13, ground := Ground.guard }], guard := some (13, false) }) (v := ?_) rfl (by kernel_rfl) (by kernel_rfl) (by kernel_rfl) (fun _ _ _ h => h) (Or.inl ⟨by rfl, ?_⟩) (by assumption) ?_
          rotate_left
          focus (intro w hSw; (try dsimp only at hSw); go_simp <;> with_reducible rfl)
          try simp only [Act.put, List.setIfInBounds_toArray, List.set_cons_zero, List.set_cons_succ]
          refine wpAnyH_take (i := 20) (oi := { dst := some 121, op := Op.load 3 (Operand.tmp 120), type := 3, pos := "law.go:57", after := #[{ on := 19, ground := Ground.data }, { on := 13, ground := Ground.guard }], guard := some (13, false) }) (v := ?_) rfl (by kernel_rfl) (by kernel_rfl) (by kernel_rfl) (fun _ _ _ h => h) (Or.inl ⟨by rfl, ?_⟩) (by assumption) ?_
          rotate_left
          focus (intro w hSw; (try dsimp only at hSw); go_simp <;> with_reducible rfl)
          try simp only [Act.put, List.setIfInBounds_toArray, List.set_cons_zero, List.set_cons_succ]
          refine wpAnyH_ready (rs := [17]) (by kernel_rfl) (by simp) ?_
          refine AllReadyH.cons (o := { dst := some 118, op := Op.call { callee := Callee.value (Operand.func 22), args := #[Operand.tmp 115, Operand.tmp 117], argTypes := #[24, 3] }, type := 4, pos := "law.go:57", after := #[{ on := 14, ground := Ground.data }, { on := 16, ground := Ground.data }, { on := 13, ground := Ground.chain }, { on := 13, ground := Ground.guard }], guard := some (13, false) }) rfl (fun K hK => ?_) AllReadyH.nil
          go_simp
          refine (C3.out _ hHeld.1).mono ?_
          rintro e w' ⟨rfl, rfl⟩
          go_wp2_with fail
          refine shut_grow (fun x => Keep [] wc x ∧ x.cell? ⟨wb, 0, none⟩ = some (.slice (some ⟨c, 0, none⟩) n n) ∧ x.cell? ⟨wb, 1, none⟩ = some (.slice (some ⟨t, 0, none⟩) n n) ∧ x.cell? ⟨sb, 1, none⟩ = some (.int .i64 f) ∧ x.cell? ⟨sb, 2, none⟩ = some (.int .i64 k)) hK (fun _ h => h) hHeld (fun hHeld => ?_)
          clear hK K
          skip
          refine wpAnyH_ready (rs := [21]) (by kernel_rfl) (by simp) ?_
          refine AllReadyH.cons (o := { dst := some 122, op := Op.call { callee := Callee.value (Operand.func 25), args := #[Operand.tmp 119, Operand.tmp 121, Operand.const (Value.int IntKind.i64 1)], argTypes := #[47, 3, 3] }, type := 4, pos := "law.go:57", after := #[{ on := 18, ground := Ground.data }, { on := 20, ground := Ground.data }, { on := 17, ground := Ground.chain }, { on := 13, ground := Ground.guard }], guard := some (13, false) }) rfl (fun K hK => ?_) AllReadyH.nil
          go_simp
          refine (C4.out _ hHeld.1).mono ?_
          rintro e w' ⟨rfl, hk2⟩
          go_wp2_with fail
          have hh2 := hHeld.1.trans hk2
          clear hHeld
          refine shut_grow (fun x => Keep [] wc x ∧ x.cell? ⟨wb, 0, none⟩ = some (.slice (some ⟨c, 0, none⟩) n n) ∧ x.cell? ⟨wb, 1, none⟩ = some (.slice (some ⟨t, 0, none⟩) n n) ∧ x.cell? ⟨sb, 1, none⟩ = some (.int .i64 f) ∧ x.cell? ⟨sb, 2, none⟩ = some (.int .i64 k)) hK (fun _ h => h) ⟨hh2, HB.out _ hh2⟩ (fun hHeld => ?_)
          clear hK K hh2 hk2
          refine wpAnyH_take (i := 22) (oi := { dst := some 123, op := Op.move (Operand.tmp 122), type := 4, pos := "law.go:57", after := #[{ on := 21, ground := Ground.data }, { on := 21, ground := Ground.chain }, { on := 13, ground := Ground.guard }], guard := some (13, false) }) (v := ?_) rfl (by kernel_rfl) (by kernel_rfl) (by kernel_rfl) (fun _ _ _ h => h) (Or.inl ⟨by rfl, ?_⟩) (by assumption) ?_
          rotate_left
          focus (intro w hSw; (try dsimp only at hSw); go_simp <;> with_reducible rfl)
          try simp only [Act.put, List.setIfInBounds_toArray, List.set_cons_zero, List.set_cons_succ]
          refine wpAnyH_take (i := 23) (oi := { dst := some 124, op := Op.load 47 (Operand.tmp 8), type := 47, pos := "law.go:57", after := #[{ on := 22, ground := Ground.guard }], guard := some (22, false) }) (v := undef) rfl (by kernel_rfl) (by kernel_rfl) (by kernel_rfl) (fun _ _ _ h => h) (Or.inr ⟨by rfl, rfl⟩) (by assumption) ?_
          try simp only [Act.put, List.setIfInBounds_toArray, List.set_cons_zero, List.set_cons_succ]
          refine wpAnyH_take (i := 24) (oi := { dst := some 125, op := Op.fieldAddr 23 (Operand.tmp 10) 1, type := 0, pos := "law.go:57", after := #[{ on := 22, ground := Ground.guard }], guard := some (22, false) }) (v := undef) rfl (by kernel_rfl) (by kernel_rfl) (by kernel_rfl) (fun _ _ _ h => h) (Or.inr ⟨by rfl, rfl⟩) (by assumption) ?_
          try simp only [Act.put, List.setIfInBounds_toArray, List.set_cons_zero, List.set_cons_succ]
          refine wpAnyH_take (i := 25) (oi := { dst := some 126, op := Op.load 3 (Operand.tmp 125), type := 3, pos := "law.go:57", after := #[{ on := 24, ground := Ground.data }, { on := 22, ground := Ground.guard }], guard := some (22, false) }) (v := undef) rfl (by kernel_rfl) (by kernel_rfl) (by kernel_rfl) (fun _ _ _ h => h) (Or.inr ⟨by rfl, rfl⟩) (by assumption) ?_
          try simp only [Act.put, List.setIfInBounds_toArray, List.set_cons_zero, List.set_cons_succ]
          refine wpAnyH_take (i := 26) (oi := { dst := some 127, op := Op.call { callee := Callee.value (Operand.func 25), args := #[Operand.tmp 124, Operand.tmp 126, Operand.const (Value.int IntKind.i64 2)], argTypes := #[47, 3, 3] }, type := 4, pos := "law.go:57", after := #[{ on := 23, ground := Ground.data }, { on := 25, ground := Ground.data }, { on := 22, ground := Ground.chain }, { on := 22, ground := Ground.guard }], guard := some (22, false) }) (v := undef) rfl (by kernel_rfl) (by kernel_rfl) (by kernel_rfl) (fun _ _ _ h => h) (Or.inr ⟨by rfl, rfl⟩) (by assumption) ?_
          try simp only [Act.put, List.setIfInBounds_toArray, List.set_cons_zero, List.set_cons_succ]
          refine wpAnyH_take (i := 27) (oi := { dst := some 128, op := Op.pick (Operand.tmp 123) (Operand.const (Value.bool true)) (Operand.tmp 127), type := 4, pos := "law.go:57", after := #[{ on := 22, ground := Ground.data }, { on := 26, ground := Ground.data }, { on := 13, ground := Ground.guard }], guard := some (13, false) }) (v := ?_) rfl (by kernel_rfl) (by kernel_rfl) (by kernel_rfl) (fun _ _ _ h => h) (Or.inl ⟨by rfl, ?_⟩) (by assumption) ?_
          rotate_left
          focus (intro w hSw; (try dsimp only at hSw); go_simp <;> with_reducible rfl)
          try simp only [Act.put, List.setIfInBounds_toArray, List.set_cons_zero, List.set_cons_succ]
          refine wpAnyH_take (i := 28) (oi := { dst := some 129, op := Op.binOp BinOp.neq 4 (Operand.tmp 118) (Operand.tmp 128) 4, type := 4, pos := "law.go:57", after := #[{ on := 17, ground := Ground.data }, { on := 27, ground := Ground.data }, { on := 13, ground := Ground.guard }], guard := some (13, false) }) (v := ?_) rfl (by kernel_rfl) (by kernel_rfl) (by kernel_rfl) (fun _ _ _ h => h) (Or.inl ⟨by rfl, ?_⟩) (by assumption) ?_
          rotate_left
          focus (intro w hSw; (try dsimp only at hSw); go_simp <;> with_reducible rfl)
          try simp only [Act.put, List.setIfInBounds_toArray, List.set_cons_zero, List.set_cons_succ]
          refine wpAnyH_take (i := 29) (oi := { dst := some 130, op := Op.pick (Operand.tmp 114) (Operand.const (Value.bool true)) (Operand.tmp 129), type := 4, pos := "law.go:57", after := #[{ on := 13, ground := Ground.data }, { on := 28, ground := Ground.data }], guard := none }) (v := ?_) rfl (by kernel_rfl) (by kernel_rfl) (by kernel_rfl) (fun _ _ _ h => h) (Or.inl ⟨by rfl, ?_⟩) (by assumption) ?_
          rotate_left
          focus (intro w hSw; (try dsimp only at hSw); go_simp <;> with_reducible rfl)
          try simp only [Act.put, List.setIfInBounds_toArray, List.set_cons_zero, List.set_cons_succ]
          refine wpAnyH_done (by kernel_rfl) ?_ _
          have HE := Lib.hid hHeld.1
          clear hHeld
          go_wp2_with fail
          go_roundw
          case rel => exact ⟨r + 1, _, _, by go_num, by omega, by omega, HN.out.1.step HE.out⟩
          case measure => simp [intOf]; omega
    · have HR := Lib.hid hR
      clear hR
      have hex : ¬ ((r : Int) < (len1 : Int)) ∨ (r : Int) < (len1 : Int) ∧ ¬ ((r : Int) < 100) := by omega
      clear hlt
      rcases hex with h1 | ⟨h1, h2⟩
      · go_wp2_with fail
        have HKwrW := Lib.hid (Keep.refl [] wr)
        have Hq := Lib.hid (fun x (hx : Keep [] wr x) => (show x.cell? ⟨wb, 0, none⟩ = some (.slice (some ⟨c, 0, none⟩) n n) ∧ x.cell? ⟨wb, 1, none⟩ = some (.slice (some ⟨t, 0, none⟩) n n) from by
          obtain ⟨d0, d1⟩ := HR.out.boxes
          exact ⟨hx.cell d0 (by simp), hx.cell d1 (by simp)⟩))
        have LI := Lib.hid (fun (q : Int) x (hx : Keep [] wr x) => mlist ((HR.out.step hx).marks.listed hn3 q))
        have RL := Lib.hid (fun (q : Int) x (hx : Keep [] wr x) => (rlist_at (HR.out.step hx).ref q).mono fun _ _ => listIs_of)
        have hll := Lib.hid (fun q => (show (kept n (sel q z1 z2)).length ≤ 1000 from by have := kept_le n (sel q z1 z2); omega))
        have h0 : kept n (sel 0 z1 z2) = [] := kept_nil n
        have h3 : kept n (sel 3 z1 z2) = [] := kept_nil n
        have H03 := Lib.hid (And.intro h0 h3)
        clear h0 h3 hrow
        unfold rval at RL
        refine wp_region_held_drew (S := fun x => Keep [] wr x ∧ x.cell? ⟨wb, 0, none⟩ = some (.slice (some ⟨c, 0, none⟩) n n) ∧ x.cell? ⟨wb, 1, none⟩ = some (.slice (some ⟨t, 0, none⟩) n n)) (by kernel_rfl) ⟨(Keep.refl [] wr).drew, Hq.out _ (Keep.refl [] wr).drew⟩ (fun hHeld => ?_)
        skip
        refine wpAnyH_take (i := 0) (oi := { dst := some 131, op := Op.move (Operand.tmp 6), type := 24, pos := "law.go:61", after := #[], guard := none }) (v := ?_) rfl (by kernel_rfl) (by kernel_rfl) (by kernel_rfl) (fun _ _ _ h => h) (Or.inl ⟨by rfl, ?_⟩) (by assumption) ?_
        rotate_left
        focus (intro w hSw; (try dsimp only at hSw); go_simp <;> with_reducible rfl)
        try simp only [Act.put, List.setIfInBounds_toArray, List.set_cons_zero, List.set_cons_succ]
        refine wpAnyH_take (i := 2) (oi := { dst := some 133, op := Op.load 47 (Operand.tmp 8), type := 47, pos := "law.go:61", after := #[], guard := none }) (v := ?_) rfl (by kernel_rfl) (by kernel_rfl) (by kernel_rfl) (fun _ _ _ h => h) (Or.inl ⟨by rfl, ?_⟩) (by assumption) ?_
        rotate_left
        focus (intro w hSw; (try dsimp only at hSw); go_simp <;> with_reducible rfl)
        try simp only [Act.put, List.setIfInBounds_toArray, List.set_cons_zero, List.set_cons_succ]
        refine wpAnyH_ready (rs := [1]) (by kernel_rfl) (by simp) ?_
        refine AllReadyH.cons (o := { dst := some 132, op := Op.call { callee := Callee.value (Operand.func 23), args := #[Operand.tmp 131, Operand.const (Value.int IntKind.i64 1)], argTypes := #[24, 3] }, type := 43, pos := "law.go:61", after := #[{ on := 0, ground := Ground.data }], guard := none }) rfl (fun K hK => ?_) AllReadyH.nil
        go_simp
        refine (LI.out 1 _ (HKwrW.out.trans hHeld.1)).mono ?_
        rintro e y1 ⟨a1, c1, rfl, hL, hkn⟩
        have HKy1W := Lib.hid (HKwrW.out.trans (hHeld.1.trans hkn))
        have hs0 := hHeld.1.trans hkn
        have HL1 := Lib.hid (And.intro hL.reads hs0)
        skip
        have hq2 := Hq.out _ HKy1W.out
        go_wp2_with fail
        refine shut_grow (fun x => Keep [] y1 x ∧ x.cell? ⟨wb, 0, none⟩ = some (.slice (some ⟨c, 0, none⟩) n n) ∧ x.cell? ⟨wb, 1, none⟩ = some (.slice (some ⟨t, 0, none⟩) n n)) hK (fun _ h => ⟨hs0.trans h.1, h.2⟩) ⟨Keep.refl _ _, hq2⟩ (fun hHeld => ?_)
        clear hK K hkn hs0 hL hq2
        skip
        refine wpAnyH_ready (rs := [3]) (by kernel_rfl) (by simp) ?_
        refine AllReadyH.cons (o := { dst := some 134, op := Op.call { callee := Callee.value (Operand.func 28), args := #[Operand.tmp 133, Operand.const (Value.int IntKind.i64 1)], argTypes := #[47, 3] }, type := 43, pos := "law.go:61", after := #[{ on := 2, ground := Ground.data }, { on := 1, ground := Ground.chain }], guard := none }) rfl (fun K hK => ?_) AllReadyH.nil
        go_simp
        refine (RL.out 1 _ (HKy1W.out.trans hHeld.1)).mono ?_
        rintro e y2 ⟨a2, c2, rfl, hL, hkn⟩
        have HKy2W := Lib.hid (HKy1W.out.trans (hHeld.1.trans hkn))
        have hs0 := hHeld.1.trans hkn
        have HL2 := Lib.hid (And.intro hL.reads hs0)
        skip
        have hq2 := Hq.out _ HKy2W.out
        go_wp2_with fail
        refine shut_grow (fun x => Keep [] y2 x ∧ x.cell? ⟨wb, 0, none⟩ = some (.slice (some ⟨c, 0, none⟩) n n) ∧ x.cell? ⟨wb, 1, none⟩ = some (.slice (some ⟨t, 0, none⟩) n n)) hK (fun _ h => ⟨hs0.trans h.1, h.2⟩) ⟨Keep.refl _ _, hq2⟩ (fun hHeld => ?_)
        clear hK K hkn hs0 hL hq2
        skip
        refine wpAnyH_ready (rs := [4]) (by kernel_rfl) (by simp) ?_
        refine AllReadyH.cons (o := { dst := some 135, op := Op.call { callee := Callee.value (Operand.func 27), args := #[Operand.tmp 132, Operand.tmp 134], argTypes := #[43, 43] }, type := 4, pos := "law.go:61", after := #[{ on := 1, ground := Ground.data }, { on := 3, ground := Ground.data }, { on := 3, ground := Ground.chain }], guard := none }) rfl (fun K hK => ?_) AllReadyH.nil
        go_simp
        refine (same_eq (kept n (sel 1 z1 z2)) a1 a2 c1 c2 _ ((HL1.out.1.keep HL2.out.2).keep hHeld.1) (HL2.out.1.keep hHeld.1) (hll.out 1)).mono ?_
        rintro e y3 ⟨rfl, dd, rfl⟩
        have hs0 := hHeld.1.drewN dd
        have HKy2X := Lib.hid (HKy2W.out.trans hs0)
        have hq2 := Hq.out _ HKy2X.out
        go_wp2_with fail
        refine shut_grow (fun x => Keep [] y2 x ∧ x.cell? ⟨wb, 0, none⟩ = some (.slice (some ⟨c, 0, none⟩) n n) ∧ x.cell? ⟨wb, 1, none⟩ = some (.slice (some ⟨t, 0, none⟩) n n)) hK (fun _ h => h) ⟨hs0, hq2⟩ (fun hHeld => ?_)
        clear hK K hs0 hq2
        refine wpAnyH_take (i := 5) (oi := { dst := some 136, op := Op.move (Operand.tmp 135), type := 4, pos := "law.go:61", after := #[{ on := 4, ground := Ground.data }, { on := 4, ground := Ground.chain }], guard := none }) (v := ?_) rfl (by kernel_rfl) (by kernel_rfl) (by kernel_rfl) (fun _ _ _ h => h) (Or.inl ⟨by rfl, ?_⟩) (by assumption) ?_
        rotate_left
        focus (intro w hSw; (try dsimp only at hSw); go_simp <;> with_reducible rfl)
        try simp only [Act.put, List.setIfInBounds_toArray, List.set_cons_zero, List.set_cons_succ]
        refine wpAnyH_take (i := 6) (oi := { dst := some 137, op := Op.move (Operand.tmp 6), type := 24, pos := "law.go:61", after := #[{ on := 5, ground := Ground.guard }], guard := some (5, true) }) (v := ?_) rfl (by kernel_rfl) (by kernel_rfl) (by kernel_rfl) (fun _ _ _ h => h) (Or.inl ⟨by rfl, ?_⟩) (by assumption) ?_
        rotate_left
        focus (intro w hSw; (try dsimp only at hSw); go_simp <;> with_reducible rfl)
        try simp only [Act.put, List.setIfInBounds_toArray, List.set_cons_zero, List.set_cons_succ]
        refine wpAnyH_take (i := 8) (oi := { dst := some 139, op := Op.load 47 (Operand.tmp 8), type := 47, pos := "law.go:61", after := #[{ on := 5, ground := Ground.guard }], guard := some (5, true) }) (v := ?_) rfl (by kernel_rfl) (by kernel_rfl) (by kernel_rfl) (fun _ _ _ h => h) (Or.inl ⟨by rfl, ?_⟩) (by assumption) ?_
        rotate_left
        focus (intro w hSw; (try dsimp only at hSw); go_simp <;> with_reducible rfl)
        try simp only [Act.put, List.setIfInBounds_toArray, List.set_cons_zero, List.set_cons_succ]
        refine wpAnyH_ready (rs := [7]) (by kernel_rfl) (by simp) ?_
        refine AllReadyH.cons (o := { dst := some 138, op := Op.call { callee := Callee.value (Operand.func 23), args := #[Operand.tmp 137, Operand.const (Value.int IntKind.i64 2)], argTypes := #[24, 3] }, type := 43, pos := "law.go:61", after := #[{ on := 6, ground := Ground.data }, { on := 5, ground := Ground.chain }, { on := 5, ground := Ground.guard }], guard := some (5, true) }) rfl (fun K hK => ?_) AllReadyH.nil
        go_simp
        refine (LI.out 2 _ (HKy2W.out.trans hHeld.1)).mono ?_
        rintro e y4 ⟨a3, c3, rfl, hL, hkn⟩
        have HKy4W := Lib.hid (HKy2W.out.trans (hHeld.1.trans hkn))
        have hs0 := hHeld.1.trans hkn
        have HL3 := Lib.hid (And.intro hL.reads hs0)
        skip
        have hq2 := Hq.out _ HKy4W.out
        go_wp2_with fail
        refine shut_grow (fun x => Keep [] y4 x ∧ x.cell? ⟨wb, 0, none⟩ = some (.slice (some ⟨c, 0, none⟩) n n) ∧ x.cell? ⟨wb, 1, none⟩ = some (.slice (some ⟨t, 0, none⟩) n n)) hK (fun _ h => ⟨hs0.trans h.1, h.2⟩) ⟨Keep.refl _ _, hq2⟩ (fun hHeld => ?_)
        clear hK K hkn hs0 hL hq2
        skip
        refine wpAnyH_ready (rs := [9]) (by kernel_rfl) (by simp) ?_
        refine AllReadyH.cons (o := { dst := some 140, op := Op.call { callee := Callee.value (Operand.func 28), args := #[Operand.tmp 139, Operand.const (Value.int IntKind.i64 2)], argTypes := #[47, 3] }, type := 43, pos := "law.go:61", after := #[{ on := 8, ground := Ground.data }, { on := 7, ground := Ground.chain }, { on := 5, ground := Ground.guard }], guard := some (5, true) }) rfl (fun K hK => ?_) AllReadyH.nil
        go_simp
        refine (RL.out 2 _ (HKy4W.out.trans hHeld.1)).mono ?_
        rintro e y5 ⟨a4, c4, rfl, hL, hkn⟩
        have HKy5W := Lib.hid (HKy4W.out.trans (hHeld.1.trans hkn))
        have hs0 := hHeld.1.trans hkn
        have HL4 := Lib.hid (And.intro hL.reads hs0)
        skip
        have hq2 := Hq.out _ HKy5W.out
        go_wp2_with fail
        refine shut_grow (fun x => Keep [] y5 x ∧ x.cell? ⟨wb, 0, none⟩ = some (.slice (some ⟨c, 0, none⟩) n n) ∧ x.cell? ⟨wb, 1, none⟩ = some (.slice (some ⟨t, 0, none⟩) n n)) hK (fun _ h => ⟨hs0.trans h.1, h.2⟩) ⟨Keep.refl _ _, hq2⟩ (fun hHeld => ?_)
        clear hK K hkn hs0 hL hq2
        skip
        refine wpAnyH_ready (rs := [10]) (by kernel_rfl) (by simp) ?_
        refine AllReadyH.cons (o := { dst := some 141, op := Op.call { callee := Callee.value (Operand.func 27), args := #[Operand.tmp 138, Operand.tmp 140], argTypes := #[43, 43] }, type := 4, pos := "law.go:61", after := #[{ on := 7, ground := Ground.data }, { on := 9, ground := Ground.data }, { on := 9, ground := Ground.chain }, { on := 5, ground := Ground.guard }], guard := some (5, true) }) rfl (fun K hK => ?_) AllReadyH.nil
        go_simp
        refine (same_eq (kept n (sel 2 z1 z2)) a3 a4 c3 c4 _ ((HL3.out.1.keep HL4.out.2).keep hHeld.1) (HL4.out.1.keep hHeld.1) (hll.out 2)).mono ?_
        rintro e y6 ⟨rfl, dd, rfl⟩
        have hs0 := hHeld.1.drewN dd
        have HKy5X := Lib.hid (HKy5W.out.trans hs0)
        have hq2 := Hq.out _ HKy5X.out
        go_wp2_with fail
        refine shut_grow (fun x => Keep [] y5 x ∧ x.cell? ⟨wb, 0, none⟩ = some (.slice (some ⟨c, 0, none⟩) n n) ∧ x.cell? ⟨wb, 1, none⟩ = some (.slice (some ⟨t, 0, none⟩) n n)) hK (fun _ h => h) ⟨hs0, hq2⟩ (fun hHeld => ?_)
        clear hK K hs0 hq2
        refine wpAnyH_take (i := 11) (oi := { dst := some 142, op := Op.pick (Operand.tmp 136) (Operand.tmp 141) (Operand.const (Value.bool false)), type := 4, pos := "law.go:61", after := #[{ on := 5, ground := Ground.data }, { on := 10, ground := Ground.data }], guard := none }) (v := ?_) rfl (by kernel_rfl) (by kernel_rfl) (by kernel_rfl) (fun _ _ _ h => h) (Or.inl ⟨by rfl, ?_⟩) (by assumption) ?_
        rotate_left
        focus (intro w hSw; (try dsimp only at hSw); go_simp <;> with_reducible rfl)
        try simp only [Act.put, List.setIfInBounds_toArray, List.set_cons_zero, List.set_cons_succ]
        refine wpAnyH_take (i := 12) (oi := { dst := some 143, op := Op.move (Operand.tmp 142), type := 4, pos := "law.go:61", after := #[{ on := 11, ground := Ground.data }, { on := 10, ground := Ground.chain }], guard := none }) (v := ?_) rfl (by kernel_rfl) (by kernel_rfl) (by kernel_rfl) (fun _ _ _ h => h) (Or.inl ⟨by rfl, ?_⟩) (by assumption) ?_
        rotate_left
        focus (intro w hSw; (try dsimp only at hSw); go_simp <;> with_reducible rfl)
        try simp only [Act.put, List.setIfInBounds_toArray, List.set_cons_zero, List.set_cons_succ]
        refine wpAnyH_take (i := 13) (oi := { dst := some 144, op := Op.move (Operand.tmp 6), type := 24, pos := "law.go:61", after := #[{ on := 12, ground := Ground.guard }], guard := some (12, true) }) (v := ?_) rfl (by kernel_rfl) (by kernel_rfl) (by kernel_rfl) (fun _ _ _ h => h) (Or.inl ⟨by rfl, ?_⟩) (by assumption) ?_
        rotate_left
        focus (intro w hSw; (try dsimp only at hSw); go_simp <;> with_reducible rfl)
        try simp only [Act.put, List.setIfInBounds_toArray, List.set_cons_zero, List.set_cons_succ]
        refine wpAnyH_ready (rs := [14]) (by kernel_rfl) (by simp) ?_
        refine AllReadyH.cons (o := { dst := some 145, op := Op.call { callee := Callee.value (Operand.func 23), args := #[Operand.tmp 144, Operand.const (Value.int IntKind.i64 0)], argTypes := #[24, 3] }, type := 43, pos := "law.go:61", after := #[{ on := 13, ground := Ground.data }, { on := 12, ground := Ground.chain }, { on := 12, ground := Ground.guard }], guard := some (12, true) }) rfl (fun K hK => ?_) AllReadyH.nil
        go_simp
        refine (LI.out 0 _ (HKy5W.out.trans hHeld.1)).mono ?_
        rintro e y7 ⟨a5, c5, rfl, hL, hkn⟩
        have HKy7W := Lib.hid (HKy5W.out.trans (hHeld.1.trans hkn))
        have hs0 := hHeld.1.trans hkn
        have HL5 := Lib.hid (And.intro hL.reads hs0)
        rw [H03.out.1]
        have hq2 := Hq.out _ HKy7W.out
        go_wp2_with fail
        refine shut_grow (fun x => Keep [] y7 x ∧ x.cell? ⟨wb, 0, none⟩ = some (.slice (some ⟨c, 0, none⟩) n n) ∧ x.cell? ⟨wb, 1, none⟩ = some (.slice (some ⟨t, 0, none⟩) n n)) hK (fun _ h => ⟨hs0.trans h.1, h.2⟩) ⟨Keep.refl _ _, hq2⟩ (fun hHeld => ?_)
        clear hK K hkn hs0 hL hq2
        refine wpAnyH_take (i := 15) (oi := { dst := some 146, op := Op.call { callee := Callee.builtin Builtin.len, args := #[Operand.tmp 145], argTypes := #[43] }, type := 3, pos := "law.go:61", after := #[{ on := 14, ground := Ground.data }, { on := 12, ground := Ground.guard }], guard := some (12, true) }) (v := ?_) rfl (by kernel_rfl) (by kernel_rfl) (by kernel_rfl) (fun _ _ _ h => h) (Or.inl ⟨by rfl, ?_⟩) (by assumption) ?_
        rotate_left
        focus (intro w hSw; (try dsimp only at hSw); go_simp <;> with_reducible rfl)
        try simp only [Act.put, List.setIfInBounds_toArray, List.set_cons_zero, List.set_cons_succ]
        refine wpAnyH_take (i := 16) (oi := { dst := some 147, op := Op.binOp BinOp.eql 3 (Operand.tmp 146) (Operand.const (Value.int IntKind.i64 0)) 3, type := 4, pos := "law.go:61", after := #[{ on := 15, ground := Ground.data }, { on := 12, ground := Ground.guard }], guard := some (12, true) }) (v := ?_) rfl (by kernel_rfl) (by kernel_rfl) (by kernel_rfl) (fun _ _ _ h => h) (Or.inl ⟨by rfl, ?_⟩) (by assumption) ?_
        rotate_left
        focus (intro w hSw; (try dsimp only at hSw); go_simp <;> with_reducible rfl)
        try simp only [Act.put, List.setIfInBounds_toArray, List.set_cons_zero, List.set_cons_succ]
        refine wpAnyH_take (i := 17) (oi := { dst := some 148, op := Op.pick (Operand.tmp 143) (Operand.tmp 147) (Operand.const (Value.bool false)), type := 4, pos := "law.go:61", after := #[{ on := 12, ground := Ground.data }, { on := 16, ground := Ground.data }], guard := none }) (v := ?_) rfl (by kernel_rfl) (by kernel_rfl) (by kernel_rfl) (fun _ _ _ h => h) (Or.inl ⟨by rfl, ?_⟩) (by assumption) ?_
        rotate_left
        focus (intro w hSw; (try dsimp only at hSw); go_simp <;> with_reducible rfl)
        try simp only [Act.put, List.setIfInBounds_toArray, List.set_cons_zero, List.set_cons_succ]
        refine wpAnyH_take (i := 18) (oi := { dst := some 149, op := Op.move (Operand.tmp 148), type := 4, pos := "law.go:61", after := #[{ on := 17, ground := Ground.data }, { on := 14, ground := Ground.chain }], guard := none }) (v := ?_) rfl (by kernel_rfl) (by kernel_rfl) (by kernel_rfl) (fun _ _ _ h => h) (Or.inl ⟨by rfl, ?_⟩) (by assumption) ?_
        rotate_left
        focus (intro w hSw; (try dsimp only at hSw); go_simp <;> with_reducible rfl)
        try simp only [Act.put, List.setIfInBounds_toArray, List.set_cons_zero, List.set_cons_succ]
        refine wpAnyH_take (i := 19) (oi := { dst := some 150, op := Op.move (Operand.tmp 6), type := 24, pos := "law.go:61", after := #[{ on := 18, ground := Ground.guard }], guard := some (18, true) }) (v := ?_) rfl (by kernel_rfl) (by kernel_rfl) (by kernel_rfl) (fun _ _ _ h => h) (Or.inl ⟨by rfl, ?_⟩) (by assumption) ?_
        rotate_left
        focus (intro w hSw; (try dsimp only at hSw); go_simp <;> with_reducible rfl)
        try simp only [Act.put, List.setIfInBounds_toArray, List.set_cons_zero, List.set_cons_succ]
        refine wpAnyH_ready (rs := [20]) (by kernel_rfl) (by simp) ?_
        refine AllReadyH.cons (o := { dst := some 151, op := Op.call { callee := Callee.value (Operand.func 23), args := #[Operand.tmp 150, Operand.const (Value.int IntKind.i64 3)], argTypes := #[24, 3] }, type := 43, pos := "law.go:61", after := #[{ on := 19, ground := Ground.data }, { on := 18, ground := Ground.chain }, { on := 18, ground := Ground.guard }], guard := some (18, true) }) rfl (fun K hK => ?_) AllReadyH.nil
        go_simp
        refine (LI.out 3 _ (HKy7W.out.trans hHeld.1)).mono ?_
        rintro e y8 ⟨a6, c6, rfl, hL, hkn⟩
        have HKy8W := Lib.hid (HKy7W.out.trans (hHeld.1.trans hkn))
        have hs0 := hHeld.1.trans hkn
        have HL6 := Lib.hid (And.intro hL.reads hs0)
        rw [H03.out.2]
        have hq2 := Hq.out _ HKy8W.out
        go_wp2_with fail
        refine shut_grow (fun x => Keep [] y8 x ∧ x.cell? ⟨wb, 0, none⟩ = some (.slice (some ⟨c, 0, none⟩) n n) ∧ x.cell? ⟨wb, 1, none⟩ = some (.slice (some ⟨t, 0, none⟩) n n)) hK (fun _ h => ⟨hs0.trans h.1, h.2⟩) ⟨Keep.refl _ _, hq2⟩ (fun hHeld => ?_)
        clear hK K hkn hs0 hL hq2
        refine wpAnyH_take (i := 21) (oi := { dst := some 152, op := Op.call { callee := Callee.builtin Builtin.len, args := #[Operand.tmp 151], argTypes := #[43] }, type := 3, pos := "law.go:61", after := #[{ on := 20, ground := Ground.data }, { on := 18, ground := Ground.guard }], guard := some (18, true) }) (v := ?_) rfl (by kernel_rfl) (by kernel_rfl) (by kernel_rfl) (fun _ _ _ h => h) (Or.inl ⟨by rfl, ?_⟩) (by assumption) ?_
        rotate_left
        focus (intro w hSw; (try dsimp only at hSw); go_simp <;> with_reducible rfl)
        try simp only [Act.put, List.setIfInBounds_toArray, List.set_cons_zero, List.set_cons_succ]
        refine wpAnyH_take (i := 22) (oi := { dst := some 153, op := Op.binOp BinOp.eql 3 (Operand.tmp 152) (Operand.const (Value.int IntKind.i64 0)) 3, type := 4, pos := "law.go:61", after := #[{ on := 21, ground := Ground.data }, { on := 18, ground := Ground.guard }], guard := some (18, true) }) (v := ?_) rfl (by kernel_rfl) (by kernel_rfl) (by kernel_rfl) (fun _ _ _ h => h) (Or.inl ⟨by rfl, ?_⟩) (by assumption) ?_
        rotate_left
        focus (intro w hSw; (try dsimp only at hSw); go_simp <;> with_reducible rfl)
        try simp only [Act.put, List.setIfInBounds_toArray, List.set_cons_zero, List.set_cons_succ]
        refine wpAnyH_take (i := 23) (oi := { dst := some 154, op := Op.pick (Operand.tmp 149) (Operand.tmp 153) (Operand.const (Value.bool false)), type := 4, pos := "law.go:61", after := #[{ on := 18, ground := Ground.data }, { on := 22, ground := Ground.data }], guard := none }) (v := ?_) rfl (by kernel_rfl) (by kernel_rfl) (by kernel_rfl) (fun _ _ _ h => h) (Or.inl ⟨by rfl, ?_⟩) (by assumption) ?_
        rotate_left
        focus (intro w hSw; (try dsimp only at hSw); go_simp <;> with_reducible rfl)
        try simp only [Act.put, List.setIfInBounds_toArray, List.set_cons_zero, List.set_cons_succ]
        refine wpAnyH_take (i := 24) (oi := { dst := some 155, op := Op.move (Operand.tmp 154), type := 4, pos := "law.go:61", after := #[{ on := 23, ground := Ground.data }, { on := 20, ground := Ground.chain }], guard := none }) (v := ?_) rfl (by kernel_rfl) (by kernel_rfl) (by kernel_rfl) (fun _ _ _ h => h) (Or.inl ⟨by rfl, ?_⟩) (by assumption) ?_
        rotate_left
        focus (intro w hSw; (try dsimp only at hSw); go_simp <;> with_reducible rfl)
        try simp only [Act.put, List.setIfInBounds_toArray, List.set_cons_zero, List.set_cons_succ]
        refine wpAnyH_ready (rs := [25]) (by kernel_rfl) (by simp) ?_
        refine AllReadyH.cons (o := { dst := some 156, op := Op.call { callee := Callee.value (Operand.func 16), args := #[], argTypes := #[] }, type := 4, pos := "law.go:61", after := #[{ on := 24, ground := Ground.chain }, { on := 24, ground := Ground.guard }], guard := some (24, true) }) rfl (fun K hK => ?_) AllReadyH.nil
        go_simp
        refine (mworks _).mono ?_
        rintro e y9 ⟨rfl, hkn⟩
        have HF := Lib.hid (Keep.below (HR.out.keep.trans (HKy8W.out.trans (hHeld.1.trans hkn))) (Nat.le_refl _) (by simp))
        have hs0 := hHeld.1.trans hkn
        have hq2 := Hq.out _ (HKy8W.out.trans hs0)
        go_wp2_with fail
        refine shut_grow (fun x => x = y9) hK (fun _ h => by rw [h]; exact ⟨hs0, hq2⟩) rfl (fun hHeld => ?_)
        clear hK K hkn hs0 hq2
        refine wpAnyH_take (i := 26) (oi := { dst := some 157, op := Op.pick (Operand.tmp 155) (Operand.tmp 156) (Operand.const (Value.bool false)), type := 4, pos := "law.go:61", after := #[{ on := 24, ground := Ground.data }, { on := 25, ground := Ground.data }], guard := none }) (v := ?_) rfl (by kernel_rfl) (by kernel_rfl) (by kernel_rfl) (fun _ _ _ h => h) (Or.inl ⟨by rfl, ?_⟩) (by assumption) ?_
        rotate_left
        focus (intro w hSw; (try dsimp only at hSw); go_simp <;> with_reducible rfl)
        try simp only [Act.put, List.setIfInBounds_toArray, List.set_cons_zero, List.set_cons_succ]
        refine wpAnyH_take (i := 27) (oi := { dst := some 4, op := Op.assign (Operand.tmp 157), type := 4, pos := "law.go:61", after := #[{ on := 26, ground := Ground.data }, { on := 25, ground := Ground.chain }, { on := 0, ground := Ground.phase }, { on := 1, ground := Ground.phase }, { on := 2, ground := Ground.phase }, { on := 3, ground := Ground.phase }, { on := 4, ground := Ground.phase }, { on := 5, ground := Ground.phase }, { on := 6, ground := Ground.phase }, { on := 7, ground := Ground.phase }, { on := 8, ground := Ground.phase }, { on := 9, ground := Ground.phase }, { on := 10, ground := Ground.phase }, { on := 11, ground := Ground.phase }, { on := 12, ground := Ground.phase }, { on := 13, ground := Ground.phase }, { on := 14, ground := Ground.phase }, { on := 15, ground := Ground.phase }, { on := 16, ground := Ground.phase }, { on := 17, ground := Ground.phase }, { on := 18, ground := Ground.phase }, { on := 19, ground := Ground.phase }, { on := 20, ground := Ground.phase }, { on := 21, ground := Ground.phase }, { on := 22, ground := Ground.phase }, { on := 23, ground := Ground.phase }, { on := 24, ground := Ground.phase }, { on := 25, ground := Ground.phase }, { on := 26, ground := Ground.phase }], guard := none }) (v := ?_) rfl (by kernel_rfl) (by kernel_rfl) (by kernel_rfl) (fun _ _ _ h => h) (Or.inl ⟨by rfl, ?_⟩) (by assumption) ?_
        rotate_left
        focus (intro w hSw; (try dsimp only at hSw); go_simp <;> with_reducible rfl)
        try simp only [Act.put, List.setIfInBounds_toArray, List.set_cons_zero, List.set_cons_succ]
        refine wpAnyH_done (by kernel_rfl) ?_ _
        clear hHeld
        go_wp2_with fail
        go_ret
        exact ⟨rfl, HF.out⟩
      · go_wp2_with fail
        have HKwrW := Lib.hid (Keep.refl [] wr)
        have Hq := Lib.hid (fun x (hx : Keep [] wr x) => (show x.cell? ⟨wb, 0, none⟩ = some (.slice (some ⟨c, 0, none⟩) n n) ∧ x.cell? ⟨wb, 1, none⟩ = some (.slice (some ⟨t, 0, none⟩) n n) from by
          obtain ⟨d0, d1⟩ := HR.out.boxes
          exact ⟨hx.cell d0 (by simp), hx.cell d1 (by simp)⟩))
        have LI := Lib.hid (fun (q : Int) x (hx : Keep [] wr x) => mlist ((HR.out.step hx).marks.listed hn3 q))
        have RL := Lib.hid (fun (q : Int) x (hx : Keep [] wr x) => (rlist_at (HR.out.step hx).ref q).mono fun _ _ => listIs_of)
        have hll := Lib.hid (fun q => (show (kept n (sel q z1 z2)).length ≤ 1000 from by have := kept_le n (sel q z1 z2); omega))
        have h0 : kept n (sel 0 z1 z2) = [] := kept_nil n
        have h3 : kept n (sel 3 z1 z2) = [] := kept_nil n
        have H03 := Lib.hid (And.intro h0 h3)
        clear h0 h3 hrow
        unfold rval at RL
        refine wp_region_held_drew (S := fun x => Keep [] wr x ∧ x.cell? ⟨wb, 0, none⟩ = some (.slice (some ⟨c, 0, none⟩) n n) ∧ x.cell? ⟨wb, 1, none⟩ = some (.slice (some ⟨t, 0, none⟩) n n)) (by kernel_rfl) ⟨(Keep.refl [] wr).drew, Hq.out _ (Keep.refl [] wr).drew⟩ (fun hHeld => ?_)
        skip
        refine wpAnyH_take (i := 0) (oi := { dst := some 131, op := Op.move (Operand.tmp 6), type := 24, pos := "law.go:61", after := #[], guard := none }) (v := ?_) rfl (by kernel_rfl) (by kernel_rfl) (by kernel_rfl) (fun _ _ _ h => h) (Or.inl ⟨by rfl, ?_⟩) (by assumption) ?_
        rotate_left
        focus (intro w hSw; (try dsimp only at hSw); go_simp <;> with_reducible rfl)
        try simp only [Act.put, List.setIfInBounds_toArray, List.set_cons_zero, List.set_cons_succ]
        refine wpAnyH_take (i := 2) (oi := { dst := some 133, op := Op.load 47 (Operand.tmp 8), type := 47, pos := "law.go:61", after := #[], guard := none }) (v := ?_) rfl (by kernel_rfl) (by kernel_rfl) (by kernel_rfl) (fun _ _ _ h => h) (Or.inl ⟨by rfl, ?_⟩) (by assumption) ?_
        rotate_left
        focus (intro w hSw; (try dsimp only at hSw); go_simp <;> with_reducible rfl)
        try simp only [Act.put, List.setIfInBounds_toArray, List.set_cons_zero, List.set_cons_succ]
        refine wpAnyH_ready (rs := [1]) (by kernel_rfl) (by simp) ?_
        refine AllReadyH.cons (o := { dst := some 132, op := Op.call { callee := Callee.value (Operand.func 23), args := #[Operand.tmp 131, Operand.const (Value.int IntKind.i64 1)], argTypes := #[24, 3] }, type := 43, pos := "law.go:61", after := #[{ on := 0, ground := Ground.data }], guard := none }) rfl (fun K hK => ?_) AllReadyH.nil
        go_simp
        refine (LI.out 1 _ (HKwrW.out.trans hHeld.1)).mono ?_
        rintro e y1 ⟨a1, c1, rfl, hL, hkn⟩
        have HKy1W := Lib.hid (HKwrW.out.trans (hHeld.1.trans hkn))
        have hs0 := hHeld.1.trans hkn
        have HL1 := Lib.hid (And.intro hL.reads hs0)
        skip
        have hq2 := Hq.out _ HKy1W.out
        go_wp2_with fail
        refine shut_grow (fun x => Keep [] y1 x ∧ x.cell? ⟨wb, 0, none⟩ = some (.slice (some ⟨c, 0, none⟩) n n) ∧ x.cell? ⟨wb, 1, none⟩ = some (.slice (some ⟨t, 0, none⟩) n n)) hK (fun _ h => ⟨hs0.trans h.1, h.2⟩) ⟨Keep.refl _ _, hq2⟩ (fun hHeld => ?_)
        clear hK K hkn hs0 hL hq2
        skip
        refine wpAnyH_ready (rs := [3]) (by kernel_rfl) (by simp) ?_
        refine AllReadyH.cons (o := { dst := some 134, op := Op.call { callee := Callee.value (Operand.func 28), args := #[Operand.tmp 133, Operand.const (Value.int IntKind.i64 1)], argTypes := #[47, 3] }, type := 43, pos := "law.go:61", after := #[{ on := 2, ground := Ground.data }, { on := 1, ground := Ground.chain }], guard := none }) rfl (fun K hK => ?_) AllReadyH.nil
        go_simp
        refine (RL.out 1 _ (HKy1W.out.trans hHeld.1)).mono ?_
        rintro e y2 ⟨a2, c2, rfl, hL, hkn⟩
        have HKy2W := Lib.hid (HKy1W.out.trans (hHeld.1.trans hkn))
        have hs0 := hHeld.1.trans hkn
        have HL2 := Lib.hid (And.intro hL.reads hs0)
        skip
        have hq2 := Hq.out _ HKy2W.out
        go_wp2_with fail
        refine shut_grow (fun x => Keep [] y2 x ∧ x.cell? ⟨wb, 0, none⟩ = some (.slice (some ⟨c, 0, none⟩) n n) ∧ x.cell? ⟨wb, 1, none⟩ = some (.slice (some ⟨t, 0, none⟩) n n)) hK (fun _ h => ⟨hs0.trans h.1, h.2⟩) ⟨Keep.refl _ _, hq2⟩ (fun hHeld => ?_)
        clear hK K hkn hs0 hL hq2
        skip
        refine wpAnyH_ready (rs := [4]) (by kernel_rfl) (by simp) ?_
        refine AllReadyH.cons (o := { dst := some 135, op := Op.call { callee := Callee.value (Operand.func 27), args := #[Operand.tmp 132, Operand.tmp 134], argTypes := #[43, 43] }, type := 4, pos := "law.go:61", after := #[{ on := 1, ground := Ground.data }, { on := 3, ground := Ground.data }, { on := 3, ground := Ground.chain }], guard := none }) rfl (fun K hK => ?_) AllReadyH.nil
        go_simp
        refine (same_eq (kept n (sel 1 z1 z2)) a1 a2 c1 c2 _ ((HL1.out.1.keep HL2.out.2).keep hHeld.1) (HL2.out.1.keep hHeld.1) (hll.out 1)).mono ?_
        rintro e y3 ⟨rfl, dd, rfl⟩
        have hs0 := hHeld.1.drewN dd
        have HKy2X := Lib.hid (HKy2W.out.trans hs0)
        have hq2 := Hq.out _ HKy2X.out
        go_wp2_with fail
        refine shut_grow (fun x => Keep [] y2 x ∧ x.cell? ⟨wb, 0, none⟩ = some (.slice (some ⟨c, 0, none⟩) n n) ∧ x.cell? ⟨wb, 1, none⟩ = some (.slice (some ⟨t, 0, none⟩) n n)) hK (fun _ h => h) ⟨hs0, hq2⟩ (fun hHeld => ?_)
        clear hK K hs0 hq2
        refine wpAnyH_take (i := 5) (oi := { dst := some 136, op := Op.move (Operand.tmp 135), type := 4, pos := "law.go:61", after := #[{ on := 4, ground := Ground.data }, { on := 4, ground := Ground.chain }], guard := none }) (v := ?_) rfl (by kernel_rfl) (by kernel_rfl) (by kernel_rfl) (fun _ _ _ h => h) (Or.inl ⟨by rfl, ?_⟩) (by assumption) ?_
        rotate_left
        focus (intro w hSw; (try dsimp only at hSw); go_simp <;> with_reducible rfl)
        try simp only [Act.put, List.setIfInBounds_toArray, List.set_cons_zero, List.set_cons_succ]
        refine wpAnyH_take (i := 6) (oi := { dst := some 137, op := Op.move (Operand.tmp 6), type := 24, pos := "law.go:61", after := #[{ on := 5, ground := Ground.guard }], guard := some (5, true) }) (v := ?_) rfl (by kernel_rfl) (by kernel_rfl) (by kernel_rfl) (fun _ _ _ h => h) (Or.inl ⟨by rfl, ?_⟩) (by assumption) ?_
        rotate_left
        focus (intro w hSw; (try dsimp only at hSw); go_simp <;> with_reducible rfl)
        try simp only [Act.put, List.setIfInBounds_toArray, List.set_cons_zero, List.set_cons_succ]
        refine wpAnyH_take (i := 8) (oi := { dst := some 139, op := Op.load 47 (Operand.tmp 8), type := 47, pos := "law.go:61", after := #[{ on := 5, ground := Ground.guard }], guard := some (5, true) }) (v := ?_) rfl (by kernel_rfl) (by kernel_rfl) (by kernel_rfl) (fun _ _ _ h => h) (Or.inl ⟨by rfl, ?_⟩) (by assumption) ?_
        rotate_left
        focus (intro w hSw; (try dsimp only at hSw); go_simp <;> with_reducible rfl)
        try simp only [Act.put, List.setIfInBounds_toArray, List.set_cons_zero, List.set_cons_succ]
        refine wpAnyH_ready (rs := [7]) (by kernel_rfl) (by simp) ?_
        refine AllReadyH.cons (o := { dst := some 138, op := Op.call { callee := Callee.value (Operand.func 23), args := #[Operand.tmp 137, Operand.const (Value.int IntKind.i64 2)], argTypes := #[24, 3] }, type := 43, pos := "law.go:61", after := #[{ on := 6, ground := Ground.data }, { on := 5, ground := Ground.chain }, { on := 5, ground := Ground.guard }], guard := some (5, true) }) rfl (fun K hK => ?_) AllReadyH.nil
        go_simp
        refine (LI.out 2 _ (HKy2W.out.trans hHeld.1)).mono ?_
        rintro e y4 ⟨a3, c3, rfl, hL, hkn⟩
        have HKy4W := Lib.hid (HKy2W.out.trans (hHeld.1.trans hkn))
        have hs0 := hHeld.1.trans hkn
        have HL3 := Lib.hid (And.intro hL.reads hs0)
        skip
        have hq2 := Hq.out _ HKy4W.out
        go_wp2_with fail
        refine shut_grow (fun x => Keep [] y4 x ∧ x.cell? ⟨wb, 0, none⟩ = some (.slice (some ⟨c, 0, none⟩) n n) ∧ x.cell? ⟨wb, 1, none⟩ = some (.slice (some ⟨t, 0, none⟩) n n)) hK (fun _ h => ⟨hs0.trans h.1, h.2⟩) ⟨Keep.refl _ _, hq2⟩ (fun hHeld => ?_)
        clear hK K hkn hs0 hL hq2
        skip
        refine wpAnyH_ready (rs := [9]) (by kernel_rfl) (by simp) ?_
        refine AllReadyH.cons (o := { dst := some 140, op := Op.call { callee := Callee.value (Operand.func 28), args := #[Operand.tmp 139, Operand.const (Value.int IntKind.i64 2)], argTypes := #[47, 3] }, type := 43, pos := "law.go:61", after := #[{ on := 8, ground := Ground.data }, { on := 7, ground := Ground.chain }, { on := 5, ground := Ground.guard }], guard := some (5, true) }) rfl (fun K hK => ?_) AllReadyH.nil
        go_simp
        refine (RL.out 2 _ (HKy4W.out.trans hHeld.1)).mono ?_
        rintro e y5 ⟨a4, c4, rfl, hL, hkn⟩
        have HKy5W := Lib.hid (HKy4W.out.trans (hHeld.1.trans hkn))
        have hs0 := hHeld.1.trans hkn
        have HL4 := Lib.hid (And.intro hL.reads hs0)
        skip
        have hq2 := Hq.out _ HKy5W.out
        go_wp2_with fail
        refine shut_grow (fun x => Keep [] y5 x ∧ x.cell? ⟨wb, 0, none⟩ = some (.slice (some ⟨c, 0, none⟩) n n) ∧ x.cell? ⟨wb, 1, none⟩ = some (.slice (some ⟨t, 0, none⟩) n n)) hK (fun _ h => ⟨hs0.trans h.1, h.2⟩) ⟨Keep.refl _ _, hq2⟩ (fun hHeld => ?_)
        clear hK K hkn hs0 hL hq2
        skip
        refine wpAnyH_ready (rs := [10]) (by kernel_rfl) (by simp) ?_
        refine AllReadyH.cons (o := { dst := some 141, op := Op.call { callee := Callee.value (Operand.func 27), args := #[Operand.tmp 138, Operand.tmp 140], argTypes := #[43, 43] }, type := 4, pos := "law.go:61", after := #[{ on := 7, ground := Ground.data }, { on := 9, ground := Ground.data }, { on := 9, ground := Ground.chain }, { on := 5, ground := Ground.guard }], guard := some (5, true) }) rfl (fun K hK => ?_) AllReadyH.nil
        go_simp
        refine (same_eq (kept n (sel 2 z1 z2)) a3 a4 c3 c4 _ ((HL3.out.1.keep HL4.out.2).keep hHeld.1) (HL4.out.1.keep hHeld.1) (hll.out 2)).mono ?_
        rintro e y6 ⟨rfl, dd, rfl⟩
        have hs0 := hHeld.1.drewN dd
        have HKy5X := Lib.hid (HKy5W.out.trans hs0)
        have hq2 := Hq.out _ HKy5X.out
        go_wp2_with fail
        refine shut_grow (fun x => Keep [] y5 x ∧ x.cell? ⟨wb, 0, none⟩ = some (.slice (some ⟨c, 0, none⟩) n n) ∧ x.cell? ⟨wb, 1, none⟩ = some (.slice (some ⟨t, 0, none⟩) n n)) hK (fun _ h => h) ⟨hs0, hq2⟩ (fun hHeld => ?_)
        clear hK K hs0 hq2
        refine wpAnyH_take (i := 11) (oi := { dst := some 142, op := Op.pick (Operand.tmp 136) (Operand.tmp 141) (Operand.const (Value.bool false)), type := 4, pos := "law.go:61", after := #[{ on := 5, ground := Ground.data }, { on := 10, ground := Ground.data }], guard := none }) (v := ?_) rfl (by kernel_rfl) (by kernel_rfl) (by kernel_rfl) (fun _ _ _ h => h) (Or.inl ⟨by rfl, ?_⟩) (by assumption) ?_
        rotate_left
        focus (intro w hSw; (try dsimp only at hSw); go_simp <;> with_reducible rfl)
        try simp only [Act.put, List.setIfInBounds_toArray, List.set_cons_zero, List.set_cons_succ]
        refine wpAnyH_take (i := 12) (oi := { dst := some 143, op := Op.move (Operand.tmp 142), type := 4, pos := "law.go:61", after := #[{ on := 11, ground := Ground.data }, { on := 10, ground := Ground.chain }], guard := none }) (v := ?_) rfl (by kernel_rfl) (by kernel_rfl) (by kernel_rfl) (fun _ _ _ h => h) (Or.inl ⟨by rfl, ?_⟩) (by assumption) ?_
        rotate_left
        focus (intro w hSw; (try dsimp only at hSw); go_simp <;> with_reducible rfl)
        try simp only [Act.put, List.setIfInBounds_toArray, List.set_cons_zero, List.set_cons_succ]
        refine wpAnyH_take (i := 13) (oi := { dst := some 144, op := Op.move (Operand.tmp 6), type := 24, pos := "law.go:61", after := #[{ on := 12, ground := Ground.guard }], guard := some (12, true) }) (v := ?_) rfl (by kernel_rfl) (by kernel_rfl) (by kernel_rfl) (fun _ _ _ h => h) (Or.inl ⟨by rfl, ?_⟩) (by assumption) ?_
        rotate_left
        focus (intro w hSw; (try dsimp only at hSw); go_simp <;> with_reducible rfl)
        try simp only [Act.put, List.setIfInBounds_toArray, List.set_cons_zero, List.set_cons_succ]
        refine wpAnyH_ready (rs := [14]) (by kernel_rfl) (by simp) ?_
        refine AllReadyH.cons (o := { dst := some 145, op := Op.call { callee := Callee.value (Operand.func 23), args := #[Operand.tmp 144, Operand.const (Value.int IntKind.i64 0)], argTypes := #[24, 3] }, type := 43, pos := "law.go:61", after := #[{ on := 13, ground := Ground.data }, { on := 12, ground := Ground.chain }, { on := 12, ground := Ground.guard }], guard := some (12, true) }) rfl (fun K hK => ?_) AllReadyH.nil
        go_simp
        refine (LI.out 0 _ (HKy5W.out.trans hHeld.1)).mono ?_
        rintro e y7 ⟨a5, c5, rfl, hL, hkn⟩
        have HKy7W := Lib.hid (HKy5W.out.trans (hHeld.1.trans hkn))
        have hs0 := hHeld.1.trans hkn
        have HL5 := Lib.hid (And.intro hL.reads hs0)
        rw [H03.out.1]
        have hq2 := Hq.out _ HKy7W.out
        go_wp2_with fail
        refine shut_grow (fun x => Keep [] y7 x ∧ x.cell? ⟨wb, 0, none⟩ = some (.slice (some ⟨c, 0, none⟩) n n) ∧ x.cell? ⟨wb, 1, none⟩ = some (.slice (some ⟨t, 0, none⟩) n n)) hK (fun _ h => ⟨hs0.trans h.1, h.2⟩) ⟨Keep.refl _ _, hq2⟩ (fun hHeld => ?_)
        clear hK K hkn hs0 hL hq2
        refine wpAnyH_take (i := 15) (oi := { dst := some 146, op := Op.call { callee := Callee.builtin Builtin.len, args := #[Operand.tmp 145], argTypes := #[43] }, type := 3, pos := "law.go:61", after := #[{ on := 14, ground := Ground.data }, { on := 12, ground := Ground.guard }], guard := some (12, true) }) (v := ?_) rfl (by kernel_rfl) (by kernel_rfl) (by kernel_rfl) (fun _ _ _ h => h) (Or.inl ⟨by rfl, ?_⟩) (by assumption) ?_
        rotate_left
        focus (intro w hSw; (try dsimp only at hSw); go_simp <;> with_reducible rfl)
        try simp only [Act.put, List.setIfInBounds_toArray, List.set_cons_zero, List.set_cons_succ]
        refine wpAnyH_take (i := 16) (oi := { dst := some 147, op := Op.binOp BinOp.eql 3 (Operand.tmp 146) (Operand.const (Value.int IntKind.i64 0)) 3, type := 4, pos := "law.go:61", after := #[{ on := 15, ground := Ground.data }, { on := 12, ground := Ground.guard }], guard := some (12, true) }) (v := ?_) rfl (by kernel_rfl) (by kernel_rfl) (by kernel_rfl) (fun _ _ _ h => h) (Or.inl ⟨by rfl, ?_⟩) (by assumption) ?_
        rotate_left
        focus (intro w hSw; (try dsimp only at hSw); go_simp <;> with_reducible rfl)
        try simp only [Act.put, List.setIfInBounds_toArray, List.set_cons_zero, List.set_cons_succ]
        refine wpAnyH_take (i := 17) (oi := { dst := some 148, op := Op.pick (Operand.tmp 143) (Operand.tmp 147) (Operand.const (Value.bool false)), type := 4, pos := "law.go:61", after := #[{ on := 12, ground := Ground.data }, { on := 16, ground := Ground.data }], guard := none }) (v := ?_) rfl (by kernel_rfl) (by kernel_rfl) (by kernel_rfl) (fun _ _ _ h => h) (Or.inl ⟨by rfl, ?_⟩) (by assumption) ?_
        rotate_left
        focus (intro w hSw; (try dsimp only at hSw); go_simp <;> with_reducible rfl)
        try simp only [Act.put, List.setIfInBounds_toArray, List.set_cons_zero, List.set_cons_succ]
        refine wpAnyH_take (i := 18) (oi := { dst := some 149, op := Op.move (Operand.tmp 148), type := 4, pos := "law.go:61", after := #[{ on := 17, ground := Ground.data }, { on := 14, ground := Ground.chain }], guard := none }) (v := ?_) rfl (by kernel_rfl) (by kernel_rfl) (by kernel_rfl) (fun _ _ _ h => h) (Or.inl ⟨by rfl, ?_⟩) (by assumption) ?_
        rotate_left
        focus (intro w hSw; (try dsimp only at hSw); go_simp <;> with_reducible rfl)
        try simp only [Act.put, List.setIfInBounds_toArray, List.set_cons_zero, List.set_cons_succ]
        refine wpAnyH_take (i := 19) (oi := { dst := some 150, op := Op.move (Operand.tmp 6), type := 24, pos := "law.go:61", after := #[{ on := 18, ground := Ground.guard }], guard := some (18, true) }) (v := ?_) rfl (by kernel_rfl) (by kernel_rfl) (by kernel_rfl) (fun _ _ _ h => h) (Or.inl ⟨by rfl, ?_⟩) (by assumption) ?_
        rotate_left
        focus (intro w hSw; (try dsimp only at hSw); go_simp <;> with_reducible rfl)
        try simp only [Act.put, List.setIfInBounds_toArray, List.set_cons_zero, List.set_cons_succ]
        refine wpAnyH_ready (rs := [20]) (by kernel_rfl) (by simp) ?_
        refine AllReadyH.cons (o := { dst := some 151, op := Op.call { callee := Callee.value (Operand.func 23), args := #[Operand.tmp 150, Operand.const (Value.int IntKind.i64 3)], argTypes := #[24, 3] }, type := 43, pos := "law.go:61", after := #[{ on := 19, ground := Ground.data }, { on := 18, ground := Ground.chain }, { on := 18, ground := Ground.guard }], guard := some (18, true) }) rfl (fun K hK => ?_) AllReadyH.nil
        go_simp
        refine (LI.out 3 _ (HKy7W.out.trans hHeld.1)).mono ?_
        rintro e y8 ⟨a6, c6, rfl, hL, hkn⟩
        have HKy8W := Lib.hid (HKy7W.out.trans (hHeld.1.trans hkn))
        have hs0 := hHeld.1.trans hkn
        have HL6 := Lib.hid (And.intro hL.reads hs0)
        rw [H03.out.2]
        have hq2 := Hq.out _ HKy8W.out
        go_wp2_with fail
        refine shut_grow (fun x => Keep [] y8 x ∧ x.cell? ⟨wb, 0, none⟩ = some (.slice (some ⟨c, 0, none⟩) n n) ∧ x.cell? ⟨wb, 1, none⟩ = some (.slice (some ⟨t, 0, none⟩) n n)) hK (fun _ h => ⟨hs0.trans h.1, h.2⟩) ⟨Keep.refl _ _, hq2⟩ (fun hHeld => ?_)
        clear hK K hkn hs0 hL hq2
        refine wpAnyH_take (i := 21) (oi := { dst := some 152, op := Op.call { callee := Callee.builtin Builtin.len, args := #[Operand.tmp 151], argTypes := #[43] }, type := 3, pos := "law.go:61", after := #[{ on := 20, ground := Ground.data }, { on := 18, ground := Ground.guard }], guard := some (18, true) }) (v := ?_) rfl (by kernel_rfl) (by kernel_rfl) (by kernel_rfl) (fun _ _ _ h => h) (Or.inl ⟨by rfl, ?_⟩) (by assumption) ?_
        rotate_left
        focus (intro w hSw; (try dsimp only at hSw); go_simp <;> with_reducible rfl)
        try simp only [Act.put, List.setIfInBounds_toArray, List.set_cons_zero, List.set_cons_succ]
        refine wpAnyH_take (i := 22) (oi := { dst := some 153, op := Op.binOp BinOp.eql 3 (Operand.tmp 152) (Operand.const (Value.int IntKind.i64 0)) 3, type := 4, pos := "law.go:61", after := #[{ on := 21, ground := Ground.data }, { on := 18, ground := Ground.guard }], guard := some (18, true) }) (v := ?_) rfl (by kernel_rfl) (by kernel_rfl) (by kernel_rfl) (fun _ _ _ h => h) (Or.inl ⟨by rfl, ?_⟩) (by assumption) ?_
        rotate_left
        focus (intro w hSw; (try dsimp only at hSw); go_simp <;> with_reducible rfl)
        try simp only [Act.put, List.setIfInBounds_toArray, List.set_cons_zero, List.set_cons_succ]
        refine wpAnyH_take (i := 23) (oi := { dst := some 154, op := Op.pick (Operand.tmp 149) (Operand.tmp 153) (Operand.const (Value.bool false)), type := 4, pos := "law.go:61", after := #[{ on := 18, ground := Ground.data }, { on := 22, ground := Ground.data }], guard := none }) (v := ?_) rfl (by kernel_rfl) (by kernel_rfl) (by kernel_rfl) (fun _ _ _ h => h) (Or.inl ⟨by rfl, ?_⟩) (by assumption) ?_
        rotate_left
        focus (intro w hSw; (try dsimp only at hSw); go_simp <;> with_reducible rfl)
        try simp only [Act.put, List.setIfInBounds_toArray, List.set_cons_zero, List.set_cons_succ]
        refine wpAnyH_take (i := 24) (oi := { dst := some 155, op := Op.move (Operand.tmp 154), type := 4, pos := "law.go:61", after := #[{ on := 23, ground := Ground.data }, { on := 20, ground := Ground.chain }], guard := none }) (v := ?_) rfl (by kernel_rfl) (by kernel_rfl) (by kernel_rfl) (fun _ _ _ h => h) (Or.inl ⟨by rfl, ?_⟩) (by assumption) ?_
        rotate_left
        focus (intro w hSw; (try dsimp only at hSw); go_simp <;> with_reducible rfl)
        try simp only [Act.put, List.setIfInBounds_toArray, List.set_cons_zero, List.set_cons_succ]
        refine wpAnyH_ready (rs := [25]) (by kernel_rfl) (by simp) ?_
        refine AllReadyH.cons (o := { dst := some 156, op := Op.call { callee := Callee.value (Operand.func 16), args := #[], argTypes := #[] }, type := 4, pos := "law.go:61", after := #[{ on := 24, ground := Ground.chain }, { on := 24, ground := Ground.guard }], guard := some (24, true) }) rfl (fun K hK => ?_) AllReadyH.nil
        go_simp
        refine (mworks _).mono ?_
        rintro e y9 ⟨rfl, hkn⟩
        have HF := Lib.hid (Keep.below (HR.out.keep.trans (HKy8W.out.trans (hHeld.1.trans hkn))) (Nat.le_refl _) (by simp))
        have hs0 := hHeld.1.trans hkn
        have hq2 := Hq.out _ (HKy8W.out.trans hs0)
        go_wp2_with fail
        refine shut_grow (fun x => x = y9) hK (fun _ h => by rw [h]; exact ⟨hs0, hq2⟩) rfl (fun hHeld => ?_)
        clear hK K hkn hs0 hq2
        refine wpAnyH_take (i := 26) (oi := { dst := some 157, op := Op.pick (Operand.tmp 155) (Operand.tmp 156) (Operand.const (Value.bool false)), type := 4, pos := "law.go:61", after := #[{ on := 24, ground := Ground.data }, { on := 25, ground := Ground.data }], guard := none }) (v := ?_) rfl (by kernel_rfl) (by kernel_rfl) (by kernel_rfl) (fun _ _ _ h => h) (Or.inl ⟨by rfl, ?_⟩) (by assumption) ?_
        rotate_left
        focus (intro w hSw; (try dsimp only at hSw); go_simp <;> with_reducible rfl)
        try simp only [Act.put, List.setIfInBounds_toArray, List.set_cons_zero, List.set_cons_succ]
        refine wpAnyH_take (i := 27) (oi := { dst := some 4, op := Op.assign (Operand.tmp 157), type := 4, pos := "law.go:61", after := #[{ on := 26, ground := Ground.data }, { on := 25, ground := Ground.chain }, { on := 0, ground := Ground.phase }, { on := 1, ground := Ground.phase }, { on := 2, ground := Ground.phase }, { on := 3, ground := Ground.phase }, { on := 4, ground := Ground.phase }, { on := 5, ground := Ground.phase }, { on := 6, ground := Ground.phase }, { on := 7, ground := Ground.phase }, { on := 8, ground := Ground.phase }, { on := 9, ground := Ground.phase }, { on := 10, ground := Ground.phase }, { on := 11, ground := Ground.phase }, { on := 12, ground := Ground.phase }, { on := 13, ground := Ground.phase }, { on := 14, ground := Ground.phase }, { on := 15, ground := Ground.phase }, { on := 16, ground := Ground.phase }, { on := 17, ground := Ground.phase }, { on := 18, ground := Ground.phase }, { on := 19, ground := Ground.phase }, { on := 20, ground := Ground.phase }, { on := 21, ground := Ground.phase }, { on := 22, ground := Ground.phase }, { on := 23, ground := Ground.phase }, { on := 24, ground := Ground.phase }, { on := 25, ground := Ground.phase }, { on := 26, ground := Ground.phase }], guard := none }) (v := ?_) rfl (by kernel_rfl) (by kernel_rfl) (by kernel_rfl) (fun _ _ _ h => h) (Or.inl ⟨by rfl, ?_⟩) (by assumption) ?_
        rotate_left
        focus (intro w hSw; (try dsimp only at hSw); go_simp <;> with_reducible rfl)
        try simp only [Act.put, List.setIfInBounds_toArray, List.set_cons_zero, List.set_cons_succ]
        refine wpAnyH_done (by kernel_rfl) ?_ _
        clear hHeld
        go_wp2_with fail
        go_ret
        exact ⟨rfl, HF.out⟩
end Go.Proofs.Ytaanefkddmakeaa
