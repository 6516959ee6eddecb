/- Does the space in use lead where the document says? -/
import Derived.BigQuiet
import Derived.Outline
import Derived.Test.YtpinoejckagjbaaVSpG
namespace Go.Proofs.Ytpinoejckagjbaa
open Go.RowKit Go.Mum
set_option linter.unusedVariables false
set_option linter.unusedSimpArgs false
set_option maxRecDepth 100000

/-- A way's block. -/
def WayB (w : World) (m : Nat) (v0 v1 v2 v3 v4 v5 : Value) : Prop := w.heap[m]? = some (.cells #[v0, v1, v2, v3, v4, v5] 36 (0, 0))
def way6 (w : World) (m : Nat) (v0 v1 v2 v3 v4 v5 : Value) : World := (((((w.setCell ⟨m, 0, none⟩ v0).setCell ⟨m, 1, none⟩ v1).setCell ⟨m, 2, none⟩ v2).setCell ⟨m, 3, none⟩ v3).setCell ⟨m, 4, none⟩ v4).setCell ⟨m, 5, none⟩ v5
theorem WayB.put {w : World} {m : Nat} {v0 v1 v2 v3 v4 v5 : Value} (h : WayB w m v0 v1 v2 v3 v4 v5) (u0 u1 u2 u3 u4 u5 : Value) : WayB (way6 w m u0 u1 u2 u3 u4 u5) m u0 u1 u2 u3 u4 u5 := by
  have h0 := heap_set_same h 0 u0
  have h1 := heap_set_same h0 1 u1
  have h2 := heap_set_same h1 2 u2
  have h3 := heap_set_same h2 3 u3
  have h4 := heap_set_same h3 4 u4
  exact heap_set_same h4 5 u5
theorem WayB.facts {w : World} {m : Nat} {v0 v1 v2 v3 v4 v5 : Value} (h : WayB w m v0 v1 v2 v3 v4 v5) : (w.cell? ⟨m, 0, none⟩ = some v0 ∧ w.cell? ⟨m, 1, none⟩ = some v1 ∧ w.cell? ⟨m, 2, none⟩ = some v2 ∧ w.cell? ⟨m, 3, none⟩ = some v3 ∧ w.cell? ⟨m, 4, none⟩ = some v4 ∧ w.cell? ⟨m, 5, none⟩ = some v5) ∧
    (w.frozen? ⟨m, 0, none⟩ = false ∧ w.frozen? ⟨m, 1, none⟩ = false ∧ w.frozen? ⟨m, 2, none⟩ = false ∧ w.frozen? ⟨m, 3, none⟩ = false ∧ w.frozen? ⟨m, 4, none⟩ = false ∧ w.frozen? ⟨m, 5, none⟩ = false) :=
  ⟨⟨cell_of h 0 rfl, cell_of h 1 rfl, cell_of h 2 rfl, cell_of h 3 rfl, cell_of h 4 rfl, cell_of h 5 rfl⟩, ⟨frozen_of h 0, frozen_of h 1, frozen_of h 2, frozen_of h 3, frozen_of h 4, frozen_of h 5⟩⟩
def Way6 (w : World) (m : Nat) : Prop := ∃ v0 v1 v2 v3 v4 v5, WayB w m v0 v1 v2 v3 v4 v5
theorem Way6.keep {w x : World} {m : Nat} (h : Way6 w m) (hk : Keep [] w x) : Way6 x m := by
  obtain ⟨v0, v1, v2, v3, v4, v5, h⟩ := h
  exact ⟨v0, v1, v2, v3, v4, v5, hk.heap h (by simp)⟩
theorem way6_keep {w x : World} {m : Nat} {v0 v1 v2 v3 v4 v5 : Value} (h : Keep [] w x) (hm : w.heap.size ≤ m) : Keep [] w (way6 x m v0 v1 v2 v3 v4 v5) := keep_six h hm

/-- A page of the document's leads there. -/
theorem AgM.page {most ns : Nat} {T : Nat → Nat → Tab} {up : Nat → Bool} {L lent : List Int} {A : QSt} {age : List Nat} {use : Bool} {R : RSt} (h : AgM T up A age use R) (hI : MInv most ns T up L lent) {n : Nat} (hn : n ∈ age) (hlt : n < ns) {q : Pg} (hq : q ∈ R.P n) : q.1 < 32768 ∧ q.2.1 < 60 ∧ q.2.2 < 16 ∧ leads (T n) q.1 = 64 * q.2.1 + q.2.2 ∧ leads (T n) q.1 ≠ 0 := by
  rw [(h.ag n hn).pg] at hq
  obtain ⟨i, hi, hz, rfl⟩ := pagesE_mem.1 hq
  have hn32 : i / 16 < 32 := by omega
  have hg := hI.ent n hlt (i / 16) hn32 (i % 16) (by omega)
  have ht : (T n (i / 16)).th = true := by
    by_cases ht : (T n (i / 16)).th = true
    · exact ht
    · exact absurd (hI.off n hlt (i / 16) hn32 (by simpa using ht) (i % 16)) hz
  have hl : leads (T n) (64 * i) = tabE (T n) i := by
    unfold leads tabE
    rw [show (64 * i) / 1024 = i / 16 by omega, show (64 * i) / 64 % 16 = i % 16 by omega, if_pos ⟨hn32, ht⟩]
  refine ⟨by simp; omega, ?_, ?_, ?_, by rw [hl]; exact hz⟩
  · show tabE (T n) i / 64 < 60
    rcases hg with hg | ⟨f, b, h1, h2, h3, h4⟩
    · exact absurd hg hz
    · unfold tabE; omega
  · show tabE (T n) i % 64 < 16
    rcases hg with hg | ⟨f, b, h1, h2, h3, h4⟩
    · exact absurd hg hz
    · unfold tabE; omega
  · rw [hl]
    show tabE (T n) i = 64 * (tabE (T n) i / 64) + tabE (T n) i % 64
    omega

/-- The word of the directory where its upper half begins. -/
theorem word16 {most ns : Nat} {T : Nat → Nat → Tab} {up : Nat → Bool} {L lent : List Int} {A : QSt} {age : List Nat} {use : Bool} {R : RSt} (h : AgM T up A age use R) (hN : NeT T) (hI : MInv most ns T up L lent) {n : Nat} (hn : n ∈ age) (hlt : n < ns) : ∃ wd : Nat, word4 L (64 * (20 + 2 * n) + 64) = (wd : Int) ∧ ((up n = true ∧ wd = 7) ∨ (up n = false ∧ wd = 0) ∨ (up n = false ∧ wd ≠ 0 ∧ 0 < (R.P n).length)) := by
  have hd := hI.dirw n hlt 16 (by omega)
  rw [show 64 * (20 + 2 * n) + 4 * 16 = 64 * (20 + 2 * n) + 64 by omega] at hd
  cases ht : (T n 16).th
  · rw [ht] at hd
    simp only [Bool.false_eq_true, if_false] at hd
    refine ⟨_, hd, ?_⟩
    cases hu : up n
    · exact .inr (.inl ⟨rfl, by simp [upE, upL]⟩)
    · exact .inl ⟨rfl, by decide⟩
  · rw [ht] at hd
    simp only [if_true] at hd
    refine ⟨_, hd, .inr (.inr ⟨?_, by omega, ?_⟩)⟩
    · cases hu : up n
      · rfl
      · have := hI.upno n hlt hu 16 (by omega) (by omega)
        rw [ht] at this; cases this
    · obtain ⟨j, hj, hz⟩ := hN n 16 (by omega) ht
      have hm : (64 * (256 + j), tabE (T n) (256 + j) / 64, tabE (T n) (256 + j) % 64) ∈ R.P n := by
        rw [(h.ag n hn).pg, pagesE_mem]
        refine ⟨256 + j, by omega, ?_, rfl⟩
        unfold tabE
        rw [show (256 + j) / 16 = 16 by omega, show (256 + j) % 16 = j by omega]
        exact hz
      exact List.length_pos_of_mem hm

section
variable {x y : World} {W0 B q r fb g p pm most ns rb : Nat} {sh : Nat → Nat} {ga gc : Nat} {ea : Option Addr} {ec : Nat} {T : Nat → Nat → Tab} {up : Nat → Bool} {A : QSt} {age : List Nat} {use : Bool} {kept lost c : Nat} {R : RSt}

theorem pages25_off (h : DB x W0 B q r fb g p pm most ns rb sh ga gc ea ec T up A age false kept lost c R) :
    Calls Try.prog 40 #[.pointer (some ⟨r, 0, none⟩), .pointer (some ⟨q, 0, none⟩), .pointer (some ⟨rb, 0, none⟩)] x fun e y => e = .returned (.bool true) ∧ Keep [] x y := by
  obtain ⟨g2, c2, h2, hr, uv, L, lent, f, hs, hv⟩ := h.hb.two
  obtain ⟨q0, -, -, -, q44, -⟩ := hs.qq.cells
  obtain ⟨-, -, r2, -, -⟩ := hr.cells
  clear h hs hr hv
  go_enter Try.func40, Try.ntmps40
  go_wp2_with fail
  refine (pages_off q0 q44).mono ?_
  rintro e y ⟨rfl, rfl⟩
  go_wp2_with fail
  refine (root_off q0 q44).mono ?_
  rintro e y ⟨rfl, rfl⟩
  go_wp2_with fail
  go_ret
  exact ⟨rfl, Keep.refl _ _⟩

set_option maxHeartbeats 8000000 in
theorem pages25_at (h : DB x W0 B q r fb g p pm most ns rb sh ga gc ea ec T up A age true kept lost c R) (hc : c ≤ 1000) :
    Calls Try.prog 40 #[.pointer (some ⟨r, 0, none⟩), .pointer (some ⟨q, 0, none⟩), .pointer (some ⟨rb, 0, none⟩)] x fun e y => e = .returned (.bool true) ∧ Keep [] x y := by
  have HD := Lib.hid h
  obtain ⟨hnd, hlen, hlt, hns, -, -, -⟩ := h.hb.facts
  obtain ⟨i, hi⟩ : ∃ i, i + 1 = age.length := ⟨age.length - 1, by omega⟩
  have hil : i < age.length := by omega
  have CPG : Hid (Calls Try.prog 43 #[.pointer (some ⟨q, 0, none⟩)] x (PagesX ((R.P age[i]).map (fun q => ((q.1 : Nat) : Int))) x)) := Lib.hid (by
    obtain ⟨g2, c2, h2, hr, uv, L, lent, f, hs, hv⟩ := h.hb.two
    have := pages_at hs hi
    rwa [plV_pages, ← (h.ag.ag _ (List.getElem_mem hil)).pg] at this)
  have hnm := List.getElem_mem hil
  have hnl := hlt _ hnm
  have htk := h.ag.us rfl i hi
  have hur := (h.ag.kk _ hnm htk).2.2
  obtain ⟨g2, c2, h2, hr, uv, L, lent, f, hs, hv⟩ := h.hb.two
  have HRC := Lib.hid (fun z (hz : Keep [] x z) => hr.keep0 hz)
  have HSP := Lib.hid (fun z (hz : Keep [] x z) => hs.keep0 hz)
  have HAG := Lib.hid (And.intro h.ag h.ne)
  obtain ⟨n, hn⟩ : ∃ n, n = age[i] := ⟨_, rfl⟩
  have hpr := hr.prow _ hnm
  have htr := hr.trow _ hnm
  obtain ⟨gh, hhc, hhv, -⟩ := hr.homeCell hil
  rw [← hn] at CPG hnm hnl htk hur hpr htr
  have hplc := hr.pl _ hnm
  have hpl : (R.P n).length ≤ 1000 := by omega
  obtain ⟨pa, pc, hpv⟩ := own_form hpr
  obtain ⟨ta, tc, htv⟩ := own_form htr
  have HN := Lib.hid hn
  have HNM := Lib.hid (And.intro hnm hnl)
  have hal := hr.al
  clear h hs hr hv hpr htr hn hnd hlt hnm hnl hplc hc
  go_enter Try.func40, Try.ntmps40
  go_wp2_with fail
  refine CPG.out.mono ?_
  rintro e y ⟨v, rfl, hrow, hky⟩
  obtain ⟨va1, vc1, rfl⟩ := own_form hrow
  rw [List.length_map] at hrow ⊢
  have HY : Hid (Keep [] x y ∧ y.ownsRow x.heap.size 22 1 (.slice va1 (R.P n).length vc1) (R.P n).length (((R.P n).map (fun q => ((q.1 : Nat) : Int))).map (Value.int .u32))) := Lib.hid ⟨hky, hrow⟩
  obtain ⟨c0, c1, c2', -, -⟩ := (HRC.out y hky).cells
  subst hhv
  have hq : ∀ z, Keep [] y z → ∀ j, j < 8 → z.cell? ⟨g2, i * 8 + j, none⟩ = (spC R n)[j]? := fun z hz j hj => by
    rw [(HRC.out z (HY.out.1.trans hz)).cell hil hj, HN.out]
  have hC : spC R n = [.bool (R.tk n), .int .u32 (R.kp n : Nat), .int .u32 (R.kr n : Nat), .bool (R.ur n), .int .i64 60, .slice pa (R.P n).length pc, .slice ta (R.S n).length tc, .int .i64 (R.mf n)] := by unfold spC; rw [hpv, htv]
  rw [hC] at hq
  obtain ⟨ln, hln⟩ : ∃ l, l = age.length := ⟨_, rfl⟩
  rw [← hln] at c0 c1
  have e0 : ∀ o, ((y.alloc o).drew).cell? ⟨rb, 0, none⟩ = some (.slice (some ⟨g2, 0, none⟩) ln c2) := fun o => ((Keep.refl [] y).alloc o).drew.cell c0 (by simp)
  have w1 : IntKind.i64.wrap (i : Int) = (i : Int) := IntWalk.i64_in _ (by omega)
  have w2 : (ln : Int) - 1 = (i : Int) := by omega
  have w3 : (0 : Int) ≤ (i : Int) := by omega
  have w4 : (i : Int) < (ln : Int) := by omega
  have p0 : y.cell? ⟨g2, i * 8, none⟩ = some (.bool (R.tk n)) := hq y (Keep.refl _ _) 0 (by omega)
  have p1 : y.cell? ⟨g2, i * 8 + 1, none⟩ = some (.int .u32 (R.kp n : Nat)) := hq y (Keep.refl _ _) 1 (by omega)
  have p2 : y.cell? ⟨g2, i * 8 + 2, none⟩ = some (.int .u32 (R.kr n : Nat)) := hq y (Keep.refl _ _) 2 (by omega)
  have p3 : y.cell? ⟨g2, i * 8 + 3, none⟩ = some (.bool (R.ur n)) := hq y (Keep.refl _ _) 3 (by omega)
  have p4 : y.cell? ⟨g2, i * 8 + 4, none⟩ = some (.int .i64 60) := hq y (Keep.refl _ _) 4 (by omega)
  have p5 : y.cell? ⟨g2, i * 8 + 5, none⟩ = some (.slice pa (R.P n).length pc) := hq y (Keep.refl _ _) 5 (by omega)
  have p6 : y.cell? ⟨g2, i * 8 + 6, none⟩ = some (.slice ta (R.S n).length tc) := hq y (Keep.refl _ _) 6 (by omega)
  have p7 : y.cell? ⟨g2, i * 8 + 7, none⟩ = some (.int .i64 (R.mf n)) := hq y (Keep.refl _ _) 7 (by omega)
  have o0 : ∀ o, ((y.alloc o).drew).cell? ⟨g2, i * 8, none⟩ = some (.bool (R.tk n)) := fun o => hq _ ((Keep.refl [] y).alloc o).drew 0 (by omega)
  have o1 : ∀ o, ((y.alloc o).drew).cell? ⟨g2, i * 8 + 1, none⟩ = some (.int .u32 (R.kp n : Nat)) := fun o => hq _ ((Keep.refl [] y).alloc o).drew 1 (by omega)
  have o2 : ∀ o, ((y.alloc o).drew).cell? ⟨g2, i * 8 + 2, none⟩ = some (.int .u32 (R.kr n : Nat)) := fun o => hq _ ((Keep.refl [] y).alloc o).drew 2 (by omega)
  have o3 : ∀ o, ((y.alloc o).drew).cell? ⟨g2, i * 8 + 3, none⟩ = some (.bool (R.ur n)) := fun o => hq _ ((Keep.refl [] y).alloc o).drew 3 (by omega)
  have o4 : ∀ o, ((y.alloc o).drew).cell? ⟨g2, i * 8 + 4, none⟩ = some (.int .i64 60) := fun o => hq _ ((Keep.refl [] y).alloc o).drew 4 (by omega)
  have o5 : ∀ o, ((y.alloc o).drew).cell? ⟨g2, i * 8 + 5, none⟩ = some (.slice pa (R.P n).length pc) := fun o => hq _ ((Keep.refl [] y).alloc o).drew 5 (by omega)
  have o6 : ∀ o, ((y.alloc o).drew).cell? ⟨g2, i * 8 + 6, none⟩ = some (.slice ta (R.S n).length tc) := fun o => hq _ ((Keep.refl [] y).alloc o).drew 6 (by omega)
  have o7 : ∀ o, ((y.alloc o).drew).cell? ⟨g2, i * 8 + 7, none⟩ = some (.int .i64 (R.mf n)) := fun o => hq _ ((Keep.refl [] y).alloc o).drew 7 (by omega)
  have HII := Lib.hid (And.intro hi (And.intro hil (And.intro hlen hns)))
  clear hrow hky hq hC CPG hln hlen hi hal hns
  go_wp2_with fail
  go_region
  obtain ⟨bx, hbx⟩ : ∃ b, b = y.heap.size := ⟨_, rfl⟩
  rw [← hbx]
  generalize hz2 : World.drew (World.alloc y _) = z2
  have HZ : Hid (Keep [] y z2 ∧ z2.heap[bx]? = some (.cells #[.bool (R.tk n), .int .u32 (R.kp n : Nat), .int .u32 (R.kr n : Nat), .bool (up n), .int .i64 60, .slice pa (R.P n).length pc, .slice ta (R.S n).length tc, .int .i64 (R.mf n)] 145 (0, 0))) := Lib.hid (by
    subst hz2
    exact ⟨((Keep.refl [] y).alloc _).drew, (Keep.refl [] _).drew.heap (heap_alloc_at _ hbx) (by simp)⟩)
  clear hz2 hbx o0 o1 o2 o3 o4 o5 o6 o7 p0 p1 p2 p3 p4 p5 p6 p7 e0
  replace c0 := HZ.out.1.cell c0 (by simp)
  replace c1 := HZ.out.1.cell c1 (by simp)
  replace c2' := HZ.out.1.cell c2' (by simp)
  have x5 : z2.cell? ⟨bx, 5, none⟩ = some (.slice pa (R.P n).length pc) := cell_of HZ.out.2 5 rfl
  have hgh : z2.cell? ⟨gh, i, none⟩ = some (.int .i64 (n : Nat)) := by
    obtain ⟨g3, h3, he, hc⟩ := (HRC.out z2 (HY.out.1.trans HZ.out.1)).homeCell hil
    cases he
    rw [hc, HN.out]
  have CRT : Hid (∀ k, Calls Try.prog 33 #[.pointer (some ⟨q, 0, none⟩)] (z2.drewN k) fun e w' => e = .returned (.int .u32 ((64 * (20 + 2 * n) : Nat) : Int)) ∧ ∃ m, w' = z2.drewN m) := Lib.hid (fun k => by
    have := root_at (HSP.out _ (HY.out.1.trans (HZ.out.1.drewN k))) HII.out.1
    rw [← HN.out] at this
    exact this.mono fun e w' ⟨h1, m, h2⟩ => ⟨h1, k + m, by rw [h2, World.drewN_drewN]⟩)
  have hn8 : n < 8 := by have := HNM.out.2; have := HII.out.2.2.2; omega
  obtain ⟨n2, hn2⟩ : ∃ m, m = 2 * n := ⟨_, rfl⟩
  obtain ⟨n3, hn3⟩ : ∃ m, m = 20 + n2 := ⟨_, rfl⟩
  obtain ⟨ro, hro⟩ : ∃ m, m = 64 * (20 + 2 * n) := ⟨_, rfl⟩
  rw [← hro] at CRT
  have m1 : IntKind.i64.wrap (2 * (n : Int)) = (n2 : Int) := by rw [IntWalk.i64_in _ (by omega)]; omega
  have m1' : 2 * (n : Int) = (n2 : Int) := by omega
  have m1w : IntKind.i64.wrap (n2 : Int) = (n2 : Int) := IntWalk.i64_in _ (by omega)
  have m2 : IntKind.i64.wrap (20 + (n2 : Int)) = (n3 : Int) := by rw [IntWalk.i64_in _ (by omega)]; omega
  have m2' : 20 + (n2 : Int) = (n3 : Int) := by omega
  have m2w : IntKind.i64.wrap (n3 : Int) = (n3 : Int) := IntWalk.i64_in _ (by omega)
  have m3 : IntKind.i64.wrap (64 * (n3 : Int)) = (ro : Int) := by rw [IntWalk.i64_in _ (by omega)]; omega
  have m3' : 64 * (n3 : Int) = (ro : Int) := by omega
  have m3w : IntKind.i64.wrap (ro : Int) = (ro : Int) := IntWalk.i64_in _ (by omega)
  have m4 : IntKind.u32.wrap (ro : Int) = (ro : Int) := IntWalk.u32_in _ (by omega)
  have HRO := Lib.hid (And.intro hro hn8)
  clear hn2 hn3 hro hn8
  (try simp only [Exit.then])
  go_wp2_with fail
  go_quiet ((go_at_call 33; exact CRT.out _))
  go_wp2_with fail
  generalize hz3 : World.drewN z2 _ = z3
  have HZ3 : Hid (Keep [] z2 z3) := Lib.hid (by subst hz3; exact (Keep.refl [] z2).drewN _)
  clear hz3 m1 m1' m1w m2 m2' m2w m3 m3' m3w m4 CRT c0 c1 c2' hgh w1 w2 w3 w4
  replace x5 := HZ3.out.cell x5 (by simp)
  have HKX : Hid (∀ z, Keep [] z3 z → Keep [] x z) := Lib.hid (fun z hz => HY.out.1.trans (HZ.out.1.trans (HZ3.out.trans hz)))
  have CRT : Hid (∀ z, Keep [] z3 z → Calls Try.prog 33 #[.pointer (some ⟨q, 0, none⟩)] z fun e w' => e = .returned (.int .u32 (ro : Nat)) ∧ Keep [] z w') := Lib.hid (fun z hz => by
    have := root_at (HSP.out _ (HKX.out z hz)) HII.out.1
    rw [← HN.out, ← HRO.out.1] at this
    exact this.mono fun e w' ⟨h1, m, h2⟩ => ⟨h1, by rw [h2]; exact (Keep.refl _ _).drewN _⟩)
  go_loopw [9, 10, 11] (fun kv av bv wr => ∃ (j : Nat) (a b : Value), kv = .int .i64 j ∧ av = a ∧ bv = b ∧ j ≤ (R.P n).length ∧ Hid (Keep [] z3 wr)) (fun kv _ _ _ => (R.P n).length - (intOf kv).toNat)
  case atStart => exact ⟨0, _, _, rfl, rfl, rfl, by omega, Lib.hid (Keep.refl _ _)⟩
  case round =>
    obtain ⟨j, a0, b0, rfl, rfl, rfl, hj, HK⟩ := hrel
    rename World => wq
    by_cases hjl : j < (R.P n).length
    · have hxw := HKX.out wq HK.out
      have hpr := (HRC.out wq hxw).prow n HNM.out.1
      rw [hpv] at hpr
      obtain ⟨gt, rfl, hg⟩ := own_some hpr (by omega)
      obtain ⟨gp, rfl, hgp⟩ := own_some HY.out.2 (by omega)
      have hq0 := hg (j * 3 + 0) (by omega)
      have hq1 := hg (j * 3 + 1) (by omega)
      have hq2 := hg (j * 3 + 2) (by omega)
      have hp0 := hgp j (by omega)
      rw [pgL_get (R.P n) j hjl _ (by omega)] at hq0 hq1 hq2
      rw [List.getElem?_map, List.getElem?_map, List.getElem?_eq_getElem hjl] at hp0
      have hpg := HAG.out.1.page (HSP.out wq hxw).m.inv HNM.out.1 HNM.out.2 (List.getElem_mem hjl)
      obtain ⟨qq, hqq⟩ : ∃ q, q = (R.P n)[j] := ⟨_, rfl⟩
      rw [← hqq] at hq0 hq1 hq2 hp0 hpg
      obtain ⟨qa, qf, qb⟩ := qq
      replace hq0 : wq.cell? ⟨gt, j * 3, none⟩ = some (.int .u32 (qa : Nat)) := hq0
      replace hq1 : wq.cell? ⟨gt, j * 3 + 1, none⟩ = some (.int .i64 (qf : Nat)) := hq1
      replace hq2 : wq.cell? ⟨gt, j * 3 + 2, none⟩ = some (.int .u32 (qb : Nat)) := hq2
      replace hp0 : wq.cell? ⟨gp, j, none⟩ = some (.int .u32 (qa : Nat)) := (HZ.out.1.trans (HZ3.out.trans HK.out)).cell hp0 (by simp)
      have x5' : wq.cell? ⟨bx, 5, none⟩ = some (.slice (some ⟨gt, 0, none⟩) (R.P n).length pc) := HK.out.cell x5 (by simp)
      simp only at hpg
      have CLK : Hid (∀ z, Keep [] z3 z → Calls Try.prog 15 #[.pointer (some ⟨r, 0, none⟩), .int .u32 (ro : Nat), .int .i64 32, .int .u32 (qa : Nat)] z (fun e w' => ∃ ay e' d' t' : Nat, e = .returned (.tuple #[.agg #[.int .u32 (qb : Nat), .int .u32 (ay : Nat), .int .u32 (e' : Nat), .int .i64 (d' : Nat), .int .i64 (t' : Nat), .int .i64 (qf : Nat)], .bool true]) ∧ Keep [] z w')) := Lib.hid (fun z hz => by
        have := mlook_at (HSP.out _ (HKX.out z hz)).m HNM.out.2 qa (by omega)
        rw [← HRO.out.1] at this
        refine this.mono ?_
        rintro e w' ⟨hk, ⟨h0, _⟩ | ⟨f, b, a, e1, d, t, h1, h2, h3, h4, h5⟩⟩
        · exact absurd h0 hpg.2.2.2.2
        · obtain rfl : f = qf := by omega
          obtain rfl : b = qb := by omega
          exact ⟨_, _, _, _, h5, hk⟩)
      have hj0 : (0 : Int) ≤ (j : Int) := by omega
      have hj1' : (j : Int) < ((R.P n).length : Int) := by omega
      have HJ := Lib.hid hjl
      clear hg hgp hqq hpg hj hjl hpr hxw x5
      go_wp2_with fail
      refine wp_region_held_drew (S := fun x => x.cell? ⟨gp, j, none⟩ = some (.int .u32 (qa : Nat)) ∧ Keep [] wq x) (by kernel_rfl) ⟨hp0, (Keep.refl [] wq).drew⟩ (fun hHeld => ?_)
      skip
      generalize World.drew wq = yd at hHeld ⊢
      refine wpAnyH_take (i := 0) (oi := { dst := some 77, op := Op.move (Operand.tmp 0), type := 26, pos := "law.go:84", after := #[], guard := none }) (v := ?_) rfl (by kernel_rfl) (by kernel_rfl) (by kernel_rfl) (fun _ _ _ h => h) (Or.inl ⟨by rfl, ?_⟩) (by assumption) ?_
      rotate_left
      focus (intro w hSw; (try dsimp only at hSw); go_simp <;> with_reducible rfl)
      try simp only [Act.put, List.setIfInBounds_toArray, List.set_cons_zero, List.set_cons_succ]
      refine wpAnyH_take (i := 1) (oi := { dst := some 78, op := Op.move (Operand.tmp 1), type := 75, pos := "law.go:84", after := #[], guard := none }) (v := ?_) rfl (by kernel_rfl) (by kernel_rfl) (by kernel_rfl) (fun _ _ _ h => h) (Or.inl ⟨by rfl, ?_⟩) (by assumption) ?_
      rotate_left
      focus (intro w hSw; (try dsimp only at hSw); go_simp <;> with_reducible rfl)
      try simp only [Act.put, List.setIfInBounds_toArray, List.set_cons_zero, List.set_cons_succ]
      refine wpAnyH_take (i := 3) (oi := { dst := some 80, op := Op.move (Operand.tmp 7), type := 44, pos := "law.go:84", after := #[], guard := none }) (v := ?_) rfl (by kernel_rfl) (by kernel_rfl) (by kernel_rfl) (fun _ _ _ h => h) (Or.inl ⟨by rfl, ?_⟩) (by assumption) ?_
      rotate_left
      focus (intro w hSw; (try dsimp only at hSw); go_simp <;> with_reducible rfl)
      try simp only [Act.put, List.setIfInBounds_toArray, List.set_cons_zero, List.set_cons_succ]
      refine wpAnyH_take (i := 4) (oi := { dst := some 81, op := Op.move (Operand.tmp 9), type := 3, pos := "law.go:84", after := #[], guard := none }) (v := ?_) rfl (by kernel_rfl) (by kernel_rfl) (by kernel_rfl) (fun _ _ _ h => h) (Or.inl ⟨by rfl, ?_⟩) (by assumption) ?_
      rotate_left
      focus (intro w hSw; (try dsimp only at hSw); go_simp <;> with_reducible rfl)
      try simp only [Act.put, List.setIfInBounds_toArray, List.set_cons_zero, List.set_cons_succ]
      refine wpAnyH_take (i := 5) (oi := { dst := some 82, op := Op.indexAddr 44 (Operand.tmp 80) (Operand.tmp 81), type := 0, pos := "law.go:84", after := #[{ on := 3, ground := Ground.data }, { on := 4, ground := Ground.data }], guard := none }) (v := ?_) rfl (by kernel_rfl) (by kernel_rfl) (by kernel_rfl) (fun _ _ _ h => h) (Or.inl ⟨by rfl, ?_⟩) (by assumption) ?_
      rotate_left
      focus (intro w hSw; (try dsimp only at hSw); go_simp <;> with_reducible rfl)
      try simp only [Act.put, List.setIfInBounds_toArray, List.set_cons_zero, List.set_cons_succ]
      refine wpAnyH_take (i := 6) (oi := { dst := some 83, op := Op.load 22 (Operand.tmp 82), type := 22, pos := "law.go:84", after := #[{ on := 5, ground := Ground.data }], guard := none }) (v := ?_) rfl (by kernel_rfl) (by kernel_rfl) (by kernel_rfl) (fun _ _ _ h => h) (Or.inl ⟨by rfl, ?_⟩) (by assumption) ?_
      rotate_left
      focus (intro w hSw; (try dsimp only at hSw); go_simp <;> with_reducible rfl)
      try simp only [Act.put, List.setIfInBounds_toArray, List.set_cons_zero, List.set_cons_succ]
      refine wpAnyH_ready (rs := [2, 11]) (by kernel_rfl) (by simp) ?_
      refine AllReadyH.cons (o := { dst := some 79, op := Op.call { callee := Callee.value (Operand.func 33), args := #[Operand.tmp 78], argTypes := #[75] }, type := 22, pos := "law.go:84", after := #[{ on := 1, ground := Ground.data }], guard := none }) rfl (fun K hK => ?_) (AllReadyH.cons (o := { dst := some 10, op := Op.alloc 36, type := 0, pos := "law.go:84", after := #[], guard := none }) rfl (fun K hK => ?_) AllReadyH.nil)
      all_goals go_simp
      · refine (CRT.out _ (HK.out.trans hHeld.2)).mono ?_
        rintro e u1 ⟨rfl, hk1⟩
        have HS1 : Hid (u1.cell? ⟨gp, j, none⟩ = some (.int .u32 (qa : Nat)) ∧ Keep [] wq u1) := Lib.hid ⟨hk1.cell hHeld.1 (by simp), hHeld.2.trans hk1⟩
        clear hk1
        go_wp2_with fail
        refine shut_grow (fun x => x.cell? ⟨gp, j, none⟩ = some (.int .u32 (qa : Nat)) ∧ Keep [] wq x) hK (fun _ h => h) HS1.out (fun hHeld => ?_)
        clear hK K HS1
        refine wpAnyH_ready (rs := [7, 11]) (by kernel_rfl) (by simp) ?_
        refine AllReadyH.cons (o := { dst := some 84, op := Op.call { callee := Callee.value (Operand.func 15), args := #[Operand.tmp 77, Operand.tmp 79, Operand.const (Value.int IntKind.i64 32), Operand.tmp 83], argTypes := #[26, 22, 3, 22] }, type := 37, pos := "law.go:84", after := #[{ on := 0, ground := Ground.data }, { on := 2, ground := Ground.data }, { on := 6, ground := Ground.data }, { on := 2, ground := Ground.chain }], guard := none }) rfl (fun K hK => ?_) (AllReadyH.cons (o := { dst := some 10, op := Op.alloc 36, type := 0, pos := "law.go:84", after := #[], guard := none }) rfl (fun K hK => ?_) AllReadyH.nil)
        all_goals go_simp
        · refine (CLK.out _ (HK.out.trans hHeld.2)).mono ?_
          rintro e u2 ⟨ay, e', d', t', rfl, hk2⟩
          have HS2 : Hid (u2.cell? ⟨gp, j, none⟩ = some (.int .u32 (qa : Nat)) ∧ Keep [] wq u2) := Lib.hid ⟨hk2.cell hHeld.1 (by simp), hHeld.2.trans hk2⟩
          clear hk2
          go_wp2_with fail
          refine shut_grow (fun x => x.cell? ⟨gp, j, none⟩ = some (.int .u32 (qa : Nat)) ∧ Keep [] wq x) hK (fun _ h => h) HS2.out (fun hHeld => ?_)
          clear hK K HS2
          refine wpAnyH_take (i := 8) (oi := { dst := some 76, op := Op.move (Operand.tmp 84), type := 37, pos := "law.go:84", after := #[{ on := 7, ground := Ground.data }], guard := none }) (v := ?_) rfl (by kernel_rfl) (by kernel_rfl) (by kernel_rfl) (fun _ _ _ h => h) (Or.inl ⟨by rfl, ?_⟩) (by assumption) ?_
          rotate_left
          focus (intro w hSw; (try dsimp only at hSw); go_simp <;> with_reducible rfl)
          try simp only [Act.put, List.setIfInBounds_toArray, List.set_cons_zero, List.set_cons_succ]
          refine wpAnyH_take (i := 9) (oi := { dst := some 85, op := Op.extract (Operand.tmp 76) 0, type := 36, pos := "law.go:84", after := #[{ on := 8, ground := Ground.data }], guard := none }) (v := ?_) rfl (by kernel_rfl) (by kernel_rfl) (by kernel_rfl) (fun _ _ _ h => h) (Or.inl ⟨by rfl, ?_⟩) (by assumption) ?_
          rotate_left
          focus (intro w hSw; (try dsimp only at hSw); go_simp <;> with_reducible rfl)
          try simp only [Act.put, List.setIfInBounds_toArray, List.set_cons_zero, List.set_cons_succ]
          refine wpAnyH_take (i := 10) (oi := { dst := some 86, op := Op.extract (Operand.tmp 76) 1, type := 4, pos := "law.go:84", after := #[{ on := 8, ground := Ground.data }, { on := 12, ground := Ground.gcOnly Departure.lateStores }], guard := none }) (v := ?_) rfl (by kernel_rfl) (by kernel_rfl) (by kernel_rfl) (fun _ _ _ h => h) (Or.inl ⟨by rfl, ?_⟩) (by assumption) ?_
          rotate_left
          focus (intro w hSw; (try dsimp only at hSw); go_simp <;> with_reducible rfl)
          try simp only [Act.put, List.setIfInBounds_toArray, List.set_cons_zero, List.set_cons_succ]
          refine wpAnyH_ready (rs := [11]) (by kernel_rfl) (by simp) ?_
          refine AllReadyH.cons (o := { dst := some 10, op := Op.alloc 36, type := 0, pos := "law.go:84", after := #[], guard := none }) rfl (fun K hK => ?_) AllReadyH.nil
          go_simp
          obtain ⟨m, hm⟩ : ∃ m, m = u2.heap.size := ⟨_, rfl⟩
          rw [← hm]
          generalize hu3 : World.alloc u2 _ = u3
          have HS3 : Hid (((u3.cell? ⟨gp, j, none⟩ = some (.int .u32 (qa : Nat)) ∧ Keep [] wq u3) ∧ Way6 u3 m) ∧ wq.heap.size ≤ m) := Lib.hid (by
            have hsz := hHeld.2.size
            have hk1 : Keep [] u2 u3 := by subst hu3; exact (Keep.refl [] _).alloc _
            refine ⟨⟨⟨hk1.cell hHeld.1 (by simp), hHeld.2.trans hk1⟩, ?_⟩, by rw [hm]; exact hsz⟩
            subst hu3 hm
            exact ⟨_, _, _, _, _, _, heap_alloc_same _ _⟩)
          have hmy := HS3.out.2
          clear hu3 hm
          refine shut_grow (fun x => (x.cell? ⟨gp, j, none⟩ = some (.int .u32 (qa : Nat)) ∧ Keep [] wq x) ∧ Way6 x m) hK (fun _ h => h.1) HS3.out.1 (fun hHeld => ?_)
          clear hK K HS3
          skip
          obtain ⟨z0, z1, z2', z3', z4, z5, hW6⟩ := hHeld.2
          obtain ⟨⟨g0, g1, g2', g3, g4, g5⟩, ⟨f0, f1, f2, f3, f4, f5⟩⟩ := hW6.facts
          have HE : Hid (Keep [] wq (way6 u3 m (.int .u32 (qb : Nat)) (.int .u32 (ay : Nat)) (.int .u32 (e' : Nat)) (.int .i64 (d' : Nat)) (.int .i64 (t' : Nat)) (.int .i64 (qf : Nat))) ∧ WayB (way6 u3 m (.int .u32 (qb : Nat)) (.int .u32 (ay : Nat)) (.int .u32 (e' : Nat)) (.int .i64 (d' : Nat)) (.int .i64 (t' : Nat)) (.int .i64 (qf : Nat))) m (.int .u32 (qb : Nat)) (.int .u32 (ay : Nat)) (.int .u32 (e' : Nat)) (.int .i64 (d' : Nat)) (.int .i64 (t' : Nat)) (.int .i64 (qf : Nat))) := Lib.hid ⟨way6_keep hHeld.1.2 hmy, hW6.put _ _ _ _ _ _⟩
          refine wpAnyH_ready (rs := [12]) (by kernel_rfl) (by simp) ?_
          refine AllReadyH.cons (o := { dst := none, op := Op.store 36 (Operand.tmp 10) (Operand.tmp 85), type := 0, pos := "law.go:84", after := #[{ on := 11, ground := Ground.data }, { on := 9, ground := Ground.data }, { on := 7, ground := Ground.chain }, { on := 0, ground := Ground.phase }, { on := 1, ground := Ground.phase }, { on := 2, ground := Ground.phase }, { on := 3, ground := Ground.phase }, { on := 4, ground := Ground.phase }, { on := 5, ground := Ground.phase }, { on := 6, ground := Ground.phase }, { on := 7, ground := Ground.phase }, { on := 8, ground := Ground.phase }, { on := 9, ground := Ground.phase }, { on := 10, ground := Ground.textOnly Departure.lateStores }, { on := 11, ground := Ground.phase }], guard := none }) rfl (fun K hK => ?_) AllReadyH.nil
          go_simp
          change K _ (way6 u3 m (.int .u32 (qb : Nat)) (.int .u32 (ay : Nat)) (.int .u32 (e' : Nat)) (.int .i64 (d' : Nat)) (.int .i64 (t' : Nat)) (.int .i64 (qf : Nat)))
          have hF : Keep [] wq (way6 u3 m (.int .u32 (qb : Nat)) (.int .u32 (ay : Nat)) (.int .u32 (e' : Nat)) (.int .i64 (d' : Nat)) (.int .i64 (t' : Nat)) (.int .i64 (qf : Nat))) := HE.out.1
          refine shut_grow (fun z => z = way6 u3 m (.int .u32 (qb : Nat)) (.int .u32 (ay : Nat)) (.int .u32 (e' : Nat)) (.int .i64 (d' : Nat)) (.int .i64 (t' : Nat)) (.int .i64 (qf : Nat))) hK (fun z h => by rw [h]; exact ⟨⟨hF.cell hp0 (by simp), hF⟩, ⟨_, _, _, _, _, _, HE.out.2⟩⟩) rfl (fun hHeld => ?_)
          clear hK K
          refine wpAnyH_take (i := 13) (oi := { dst := some 11, op := Op.assign (Operand.tmp 86), type := 4, pos := "law.go:84", after := #[{ on := 10, ground := Ground.data }, { on := 12, ground := Ground.chain }, { on := 0, ground := Ground.phase }, { on := 1, ground := Ground.phase }, { on := 2, ground := Ground.phase }, { on := 3, ground := Ground.phase }, { on := 4, ground := Ground.phase }, { on := 5, ground := Ground.phase }, { on := 6, ground := Ground.phase }, { on := 7, ground := Ground.phase }, { on := 8, ground := Ground.phase }, { on := 9, ground := Ground.phase }, { on := 10, ground := Ground.phase }, { on := 11, ground := Ground.phase }, { on := 12, ground := Ground.phase }], guard := none }) (v := ?_) rfl (by kernel_rfl) (by kernel_rfl) (by kernel_rfl) (fun _ _ _ h => h) (Or.inl ⟨by rfl, ?_⟩) (by assumption) ?_
          rotate_left
          focus (intro w hSw; (try dsimp only at hSw); go_simp <;> with_reducible rfl)
          try simp only [Act.put, List.setIfInBounds_toArray, List.set_cons_zero, List.set_cons_succ]
          refine wpAnyH_done (by kernel_rfl) ?_ _
          clear hHeld hF g0 g1 g2' g3 g4 g5 f0 f1 f2 f3 f4 f5
          change Exit.then _ _ _ _ (way6 u3 m (.int .u32 (qb : Nat)) (.int .u32 (ay : Nat)) (.int .u32 (e' : Nat)) (.int .i64 (d' : Nat)) (.int .i64 (t' : Nat)) (.int .i64 (qf : Nat)))
          generalize way6 u3 m (.int .u32 (qb : Nat)) (.int .u32 (ay : Nat)) (.int .u32 (e' : Nat)) (.int .i64 (d' : Nat)) (.int .i64 (t' : Nat)) (.int .i64 (qf : Nat)) = u9 at HE
          have x0 : u9.cell? ⟨bx, 5, none⟩ = some (.slice (some ⟨gt, 0, none⟩) (R.P n).length pc) := HE.out.1.cell x5' (by simp)
          have x1 := HE.out.1.cell hq0 (by simp)
          have x2 := HE.out.1.cell hq1 (by simp)
          have x3 := HE.out.1.cell hq2 (by simp)
          have y0 : u9.cell? ⟨m, 0, none⟩ = some (.int .u32 (qb : Nat)) := cell_of HE.out.2 0 rfl
          have y5 : u9.cell? ⟨m, 5, none⟩ = some (.int .i64 (qf : Nat)) := cell_of HE.out.2 5 rfl
          have pp := HE.out.1.cell hp0 (by simp)
          have HKN : Hid (∀ d, Keep [] z3 (u9.drewN d)) := Lib.hid (fun d => HK.out.trans (HE.out.1.drewN d))
          clear HE hp0 hq0 hq1 hq2
          go_wp2_with fail
          go_quiet (fail)
          go_wp2_with fail
          go_roundw
          case rel => exact ⟨j + 1, _, _, by go_num, rfl, rfl, by have := HJ.out; omega, Lib.hid (HKN.out _)⟩
          case measure => simp [intOf]; have := HJ.out; omega
        · skip
          obtain ⟨m, hm⟩ : ∃ m, m = u1.heap.size := ⟨_, rfl⟩
          rw [← hm]
          generalize hu3 : World.alloc u1 _ = u3
          have HS3 : Hid (((u3.cell? ⟨gp, j, none⟩ = some (.int .u32 (qa : Nat)) ∧ Keep [] wq u3) ∧ Way6 u3 m) ∧ wq.heap.size ≤ m) := Lib.hid (by
            have hsz := hHeld.2.size
            have hk1 : Keep [] u1 u3 := by subst hu3; exact (Keep.refl [] _).alloc _
            refine ⟨⟨⟨hk1.cell hHeld.1 (by simp), hHeld.2.trans hk1⟩, ?_⟩, by rw [hm]; exact hsz⟩
            subst hu3 hm
            exact ⟨_, _, _, _, _, _, heap_alloc_same _ _⟩)
          have hmy := HS3.out.2
          clear hu3 hm
          refine shut_grow (fun x => (x.cell? ⟨gp, j, none⟩ = some (.int .u32 (qa : Nat)) ∧ Keep [] wq x) ∧ Way6 x m) hK (fun _ h => h.1) HS3.out.1 (fun hHeld => ?_)
          clear hK K HS3
          refine wpAnyH_ready (rs := [7]) (by kernel_rfl) (by simp) ?_
          refine AllReadyH.cons (o := { dst := some 84, op := Op.call { callee := Callee.value (Operand.func 15), args := #[Operand.tmp 77, Operand.tmp 79, Operand.const (Value.int IntKind.i64 32), Operand.tmp 83], argTypes := #[26, 22, 3, 22] }, type := 37, pos := "law.go:84", after := #[{ on := 0, ground := Ground.data }, { on := 2, ground := Ground.data }, { on := 6, ground := Ground.data }, { on := 2, ground := Ground.chain }], guard := none }) rfl (fun K hK => ?_) AllReadyH.nil
          go_simp
          refine (CLK.out _ (HK.out.trans hHeld.1.2)).mono ?_
          rintro e u2 ⟨ay, e', d', t', rfl, hk2⟩
          have HS2 : Hid ((u2.cell? ⟨gp, j, none⟩ = some (.int .u32 (qa : Nat)) ∧ Keep [] wq u2) ∧ Way6 u2 m) := Lib.hid ⟨⟨hk2.cell hHeld.1.1 (by simp), hHeld.1.2.trans hk2⟩, hHeld.2.keep hk2⟩
          clear hk2
          go_wp2_with fail
          refine shut_grow (fun x => (x.cell? ⟨gp, j, none⟩ = some (.int .u32 (qa : Nat)) ∧ Keep [] wq x) ∧ Way6 x m) hK (fun _ h => h) HS2.out (fun hHeld => ?_)
          clear hK K HS2
          refine wpAnyH_take (i := 8) (oi := { dst := some 76, op := Op.move (Operand.tmp 84), type := 37, pos := "law.go:84", after := #[{ on := 7, ground := Ground.data }], guard := none }) (v := ?_) rfl (by kernel_rfl) (by kernel_rfl) (by kernel_rfl) (fun _ _ _ h => h) (Or.inl ⟨by rfl, ?_⟩) (by assumption) ?_
          rotate_left
          focus (intro w hSw; (try dsimp only at hSw); go_simp <;> with_reducible rfl)
          try simp only [Act.put, List.setIfInBounds_toArray, List.set_cons_zero, List.set_cons_succ]
          refine wpAnyH_take (i := 9) (oi := { dst := some 85, op := Op.extract (Operand.tmp 76) 0, type := 36, pos := "law.go:84", after := #[{ on := 8, ground := Ground.data }], guard := none }) (v := ?_) rfl (by kernel_rfl) (by kernel_rfl) (by kernel_rfl) (fun _ _ _ h => h) (Or.inl ⟨by rfl, ?_⟩) (by assumption) ?_
          rotate_left
          focus (intro w hSw; (try dsimp only at hSw); go_simp <;> with_reducible rfl)
          try simp only [Act.put, List.setIfInBounds_toArray, List.set_cons_zero, List.set_cons_succ]
          refine wpAnyH_take (i := 10) (oi := { dst := some 86, op := Op.extract (Operand.tmp 76) 1, type := 4, pos := "law.go:84", after := #[{ on := 8, ground := Ground.data }, { on := 12, ground := Ground.gcOnly Departure.lateStores }], guard := none }) (v := ?_) rfl (by kernel_rfl) (by kernel_rfl) (by kernel_rfl) (fun _ _ _ h => h) (Or.inl ⟨by rfl, ?_⟩) (by assumption) ?_
          rotate_left
          focus (intro w hSw; (try dsimp only at hSw); go_simp <;> with_reducible rfl)
          try simp only [Act.put, List.setIfInBounds_toArray, List.set_cons_zero, List.set_cons_succ]
          obtain ⟨z0, z1, z2', z3', z4, z5, hW6⟩ := hHeld.2
          obtain ⟨⟨g0, g1, g2', g3, g4, g5⟩, ⟨f0, f1, f2, f3, f4, f5⟩⟩ := hW6.facts
          have HE : Hid (Keep [] wq (way6 u2 m (.int .u32 (qb : Nat)) (.int .u32 (ay : Nat)) (.int .u32 (e' : Nat)) (.int .i64 (d' : Nat)) (.int .i64 (t' : Nat)) (.int .i64 (qf : Nat))) ∧ WayB (way6 u2 m (.int .u32 (qb : Nat)) (.int .u32 (ay : Nat)) (.int .u32 (e' : Nat)) (.int .i64 (d' : Nat)) (.int .i64 (t' : Nat)) (.int .i64 (qf : Nat))) m (.int .u32 (qb : Nat)) (.int .u32 (ay : Nat)) (.int .u32 (e' : Nat)) (.int .i64 (d' : Nat)) (.int .i64 (t' : Nat)) (.int .i64 (qf : Nat))) := Lib.hid ⟨way6_keep hHeld.1.2 hmy, hW6.put _ _ _ _ _ _⟩
          refine wpAnyH_ready (rs := [12]) (by kernel_rfl) (by simp) ?_
          refine AllReadyH.cons (o := { dst := none, op := Op.store 36 (Operand.tmp 10) (Operand.tmp 85), type := 0, pos := "law.go:84", after := #[{ on := 11, ground := Ground.data }, { on := 9, ground := Ground.data }, { on := 7, ground := Ground.chain }, { on := 0, ground := Ground.phase }, { on := 1, ground := Ground.phase }, { on := 2, ground := Ground.phase }, { on := 3, ground := Ground.phase }, { on := 4, ground := Ground.phase }, { on := 5, ground := Ground.phase }, { on := 6, ground := Ground.phase }, { on := 7, ground := Ground.phase }, { on := 8, ground := Ground.phase }, { on := 9, ground := Ground.phase }, { on := 10, ground := Ground.textOnly Departure.lateStores }, { on := 11, ground := Ground.phase }], guard := none }) rfl (fun K hK => ?_) AllReadyH.nil
          go_simp
          change K _ (way6 u2 m (.int .u32 (qb : Nat)) (.int .u32 (ay : Nat)) (.int .u32 (e' : Nat)) (.int .i64 (d' : Nat)) (.int .i64 (t' : Nat)) (.int .i64 (qf : Nat)))
          have hF : Keep [] wq (way6 u2 m (.int .u32 (qb : Nat)) (.int .u32 (ay : Nat)) (.int .u32 (e' : Nat)) (.int .i64 (d' : Nat)) (.int .i64 (t' : Nat)) (.int .i64 (qf : Nat))) := HE.out.1
          refine shut_grow (fun z => z = way6 u2 m (.int .u32 (qb : Nat)) (.int .u32 (ay : Nat)) (.int .u32 (e' : Nat)) (.int .i64 (d' : Nat)) (.int .i64 (t' : Nat)) (.int .i64 (qf : Nat))) hK (fun z h => by rw [h]; exact ⟨⟨hF.cell hp0 (by simp), hF⟩, ⟨_, _, _, _, _, _, HE.out.2⟩⟩) rfl (fun hHeld => ?_)
          clear hK K
          refine wpAnyH_take (i := 13) (oi := { dst := some 11, op := Op.assign (Operand.tmp 86), type := 4, pos := "law.go:84", after := #[{ on := 10, ground := Ground.data }, { on := 12, ground := Ground.chain }, { on := 0, ground := Ground.phase }, { on := 1, ground := Ground.phase }, { on := 2, ground := Ground.phase }, { on := 3, ground := Ground.phase }, { on := 4, ground := Ground.phase }, { on := 5, ground := Ground.phase }, { on := 6, ground := Ground.phase }, { on := 7, ground := Ground.phase }, { on := 8, ground := Ground.phase }, { on := 9, ground := Ground.phase }, { on := 10, ground := Ground.phase }, { on := 11, ground := Ground.phase }, { on := 12, ground := Ground.phase }], guard := none }) (v := ?_) rfl (by kernel_rfl) (by kernel_rfl) (by kernel_rfl) (fun _ _ _ h => h) (Or.inl ⟨by rfl, ?_⟩) (by assumption) ?_
          rotate_left
          focus (intro w hSw; (try dsimp only at hSw); go_simp <;> with_reducible rfl)
          try simp only [Act.put, List.setIfInBounds_toArray, List.set_cons_zero, List.set_cons_succ]
          refine wpAnyH_done (by kernel_rfl) ?_ _
          clear hHeld hF g0 g1 g2' g3 g4 g5 f0 f1 f2 f3 f4 f5
          change Exit.then _ _ _ _ (way6 u2 m (.int .u32 (qb : Nat)) (.int .u32 (ay : Nat)) (.int .u32 (e' : Nat)) (.int .i64 (d' : Nat)) (.int .i64 (t' : Nat)) (.int .i64 (qf : Nat)))
          generalize way6 u2 m (.int .u32 (qb : Nat)) (.int .u32 (ay : Nat)) (.int .u32 (e' : Nat)) (.int .i64 (d' : Nat)) (.int .i64 (t' : Nat)) (.int .i64 (qf : Nat)) = u9 at HE
          have x0 : u9.cell? ⟨bx, 5, none⟩ = some (.slice (some ⟨gt, 0, none⟩) (R.P n).length pc) := HE.out.1.cell x5' (by simp)
          have x1 := HE.out.1.cell hq0 (by simp)
          have x2 := HE.out.1.cell hq1 (by simp)
          have x3 := HE.out.1.cell hq2 (by simp)
          have y0 : u9.cell? ⟨m, 0, none⟩ = some (.int .u32 (qb : Nat)) := cell_of HE.out.2 0 rfl
          have y5 : u9.cell? ⟨m, 5, none⟩ = some (.int .i64 (qf : Nat)) := cell_of HE.out.2 5 rfl
          have pp := HE.out.1.cell hp0 (by simp)
          have HKN : Hid (∀ d, Keep [] z3 (u9.drewN d)) := Lib.hid (fun d => HK.out.trans (HE.out.1.drewN d))
          clear HE hp0 hq0 hq1 hq2
          go_wp2_with fail
          go_quiet (fail)
          go_wp2_with fail
          go_roundw
          case rel => exact ⟨j + 1, _, _, by go_num, rfl, rfl, by have := HJ.out; omega, Lib.hid (HKN.out _)⟩
          case measure => simp [intOf]; have := HJ.out; omega
      · skip
        obtain ⟨m, hm⟩ : ∃ m, m = yd.heap.size := ⟨_, rfl⟩
        rw [← hm]
        generalize hu3 : World.alloc yd _ = u3
        have HS3 : Hid (((u3.cell? ⟨gp, j, none⟩ = some (.int .u32 (qa : Nat)) ∧ Keep [] wq u3) ∧ Way6 u3 m) ∧ wq.heap.size ≤ m) := Lib.hid (by
          have hsz := hHeld.2.size
          have hk1 : Keep [] yd u3 := by subst hu3; exact (Keep.refl [] _).alloc _
          refine ⟨⟨⟨hk1.cell hHeld.1 (by simp), hHeld.2.trans hk1⟩, ?_⟩, by rw [hm]; exact hsz⟩
          subst hu3 hm
          exact ⟨_, _, _, _, _, _, heap_alloc_same _ _⟩)
        have hmy := HS3.out.2
        clear hu3 hm
        refine shut_grow (fun x => (x.cell? ⟨gp, j, none⟩ = some (.int .u32 (qa : Nat)) ∧ Keep [] wq x) ∧ Way6 x m) hK (fun _ h => h.1) HS3.out.1 (fun hHeld => ?_)
        clear hK K HS3
        refine wpAnyH_ready (rs := [2]) (by kernel_rfl) (by simp) ?_
        refine AllReadyH.cons (o := { dst := some 79, op := Op.call { callee := Callee.value (Operand.func 33), args := #[Operand.tmp 78], argTypes := #[75] }, type := 22, pos := "law.go:84", after := #[{ on := 1, ground := Ground.data }], guard := none }) rfl (fun K hK => ?_) AllReadyH.nil
        go_simp
        refine (CRT.out _ (HK.out.trans hHeld.1.2)).mono ?_
        rintro e u1 ⟨rfl, hk1⟩
        have HS1 : Hid ((u1.cell? ⟨gp, j, none⟩ = some (.int .u32 (qa : Nat)) ∧ Keep [] wq u1) ∧ Way6 u1 m) := Lib.hid ⟨⟨hk1.cell hHeld.1.1 (by simp), hHeld.1.2.trans hk1⟩, hHeld.2.keep hk1⟩
        clear hk1
        go_wp2_with fail
        refine shut_grow (fun x => (x.cell? ⟨gp, j, none⟩ = some (.int .u32 (qa : Nat)) ∧ Keep [] wq x) ∧ Way6 x m) hK (fun _ h => h) HS1.out (fun hHeld => ?_)
        clear hK K HS1
        refine wpAnyH_ready (rs := [7]) (by kernel_rfl) (by simp) ?_
        refine AllReadyH.cons (o := { dst := some 84, op := Op.call { callee := Callee.value (Operand.func 15), args := #[Operand.tmp 77, Operand.tmp 79, Operand.const (Value.int IntKind.i64 32), Operand.tmp 83], argTypes := #[26, 22, 3, 22] }, type := 37, pos := "law.go:84", after := #[{ on := 0, ground := Ground.data }, { on := 2, ground := Ground.data }, { on := 6, ground := Ground.data }, { on := 2, ground := Ground.chain }], guard := none }) rfl (fun K hK => ?_) AllReadyH.nil
        go_simp
        refine (CLK.out _ (HK.out.trans hHeld.1.2)).mono ?_
        rintro e u2 ⟨ay, e', d', t', rfl, hk2⟩
        have HS2 : Hid ((u2.cell? ⟨gp, j, none⟩ = some (.int .u32 (qa : Nat)) ∧ Keep [] wq u2) ∧ Way6 u2 m) := Lib.hid ⟨⟨hk2.cell hHeld.1.1 (by simp), hHeld.1.2.trans hk2⟩, hHeld.2.keep hk2⟩
        clear hk2
        go_wp2_with fail
        refine shut_grow (fun x => (x.cell? ⟨gp, j, none⟩ = some (.int .u32 (qa : Nat)) ∧ Keep [] wq x) ∧ Way6 x m) hK (fun _ h => h) HS2.out (fun hHeld => ?_)
        clear hK K HS2
        refine wpAnyH_take (i := 8) (oi := { dst := some 76, op := Op.move (Operand.tmp 84), type := 37, pos := "law.go:84", after := #[{ on := 7, ground := Ground.data }], guard := none }) (v := ?_) rfl (by kernel_rfl) (by kernel_rfl) (by kernel_rfl) (fun _ _ _ h => h) (Or.inl ⟨by rfl, ?_⟩) (by assumption) ?_
        rotate_left
        focus (intro w hSw; (try dsimp only at hSw); go_simp <;> with_reducible rfl)
        try simp only [Act.put, List.setIfInBounds_toArray, List.set_cons_zero, List.set_cons_succ]
        refine wpAnyH_take (i := 9) (oi := { dst := some 85, op := Op.extract (Operand.tmp 76) 0, type := 36, pos := "law.go:84", after := #[{ on := 8, ground := Ground.data }], guard := none }) (v := ?_) rfl (by kernel_rfl) (by kernel_rfl) (by kernel_rfl) (fun _ _ _ h => h) (Or.inl ⟨by rfl, ?_⟩) (by assumption) ?_
        rotate_left
        focus (intro w hSw; (try dsimp only at hSw); go_simp <;> with_reducible rfl)
        try simp only [Act.put, List.setIfInBounds_toArray, List.set_cons_zero, List.set_cons_succ]
        refine wpAnyH_take (i := 10) (oi := { dst := some 86, op := Op.extract (Operand.tmp 76) 1, type := 4, pos := "law.go:84", after := #[{ on := 8, ground := Ground.data }, { on := 12, ground := Ground.gcOnly Departure.lateStores }], guard := none }) (v := ?_) rfl (by kernel_rfl) (by kernel_rfl) (by kernel_rfl) (fun _ _ _ h => h) (Or.inl ⟨by rfl, ?_⟩) (by assumption) ?_
        rotate_left
        focus (intro w hSw; (try dsimp only at hSw); go_simp <;> with_reducible rfl)
        try simp only [Act.put, List.setIfInBounds_toArray, List.set_cons_zero, List.set_cons_succ]
        obtain ⟨z0, z1, z2', z3', z4, z5, hW6⟩ := hHeld.2
        obtain ⟨⟨g0, g1, g2', g3, g4, g5⟩, ⟨f0, f1, f2, f3, f4, f5⟩⟩ := hW6.facts
        have HE : Hid (Keep [] wq (way6 u2 m (.int .u32 (qb : Nat)) (.int .u32 (ay : Nat)) (.int .u32 (e' : Nat)) (.int .i64 (d' : Nat)) (.int .i64 (t' : Nat)) (.int .i64 (qf : Nat))) ∧ WayB (way6 u2 m (.int .u32 (qb : Nat)) (.int .u32 (ay : Nat)) (.int .u32 (e' : Nat)) (.int .i64 (d' : Nat)) (.int .i64 (t' : Nat)) (.int .i64 (qf : Nat))) m (.int .u32 (qb : Nat)) (.int .u32 (ay : Nat)) (.int .u32 (e' : Nat)) (.int .i64 (d' : Nat)) (.int .i64 (t' : Nat)) (.int .i64 (qf : Nat))) := Lib.hid ⟨way6_keep hHeld.1.2 hmy, hW6.put _ _ _ _ _ _⟩
        refine wpAnyH_ready (rs := [12]) (by kernel_rfl) (by simp) ?_
        refine AllReadyH.cons (o := { dst := none, op := Op.store 36 (Operand.tmp 10) (Operand.tmp 85), type := 0, pos := "law.go:84", after := #[{ on := 11, ground := Ground.data }, { on := 9, ground := Ground.data }, { on := 7, ground := Ground.chain }, { on := 0, ground := Ground.phase }, { on := 1, ground := Ground.phase }, { on := 2, ground := Ground.phase }, { on := 3, ground := Ground.phase }, { on := 4, ground := Ground.phase }, { on := 5, ground := Ground.phase }, { on := 6, ground := Ground.phase }, { on := 7, ground := Ground.phase }, { on := 8, ground := Ground.phase }, { on := 9, ground := Ground.phase }, { on := 10, ground := Ground.textOnly Departure.lateStores }, { on := 11, ground := Ground.phase }], guard := none }) rfl (fun K hK => ?_) AllReadyH.nil
        go_simp
        change K _ (way6 u2 m (.int .u32 (qb : Nat)) (.int .u32 (ay : Nat)) (.int .u32 (e' : Nat)) (.int .i64 (d' : Nat)) (.int .i64 (t' : Nat)) (.int .i64 (qf : Nat)))
        have hF : Keep [] wq (way6 u2 m (.int .u32 (qb : Nat)) (.int .u32 (ay : Nat)) (.int .u32 (e' : Nat)) (.int .i64 (d' : Nat)) (.int .i64 (t' : Nat)) (.int .i64 (qf : Nat))) := HE.out.1
        refine shut_grow (fun z => z = way6 u2 m (.int .u32 (qb : Nat)) (.int .u32 (ay : Nat)) (.int .u32 (e' : Nat)) (.int .i64 (d' : Nat)) (.int .i64 (t' : Nat)) (.int .i64 (qf : Nat))) hK (fun z h => by rw [h]; exact ⟨⟨hF.cell hp0 (by simp), hF⟩, ⟨_, _, _, _, _, _, HE.out.2⟩⟩) rfl (fun hHeld => ?_)
        clear hK K
        refine wpAnyH_take (i := 13) (oi := { dst := some 11, op := Op.assign (Operand.tmp 86), type := 4, pos := "law.go:84", after := #[{ on := 10, ground := Ground.data }, { on := 12, ground := Ground.chain }, { on := 0, ground := Ground.phase }, { on := 1, ground := Ground.phase }, { on := 2, ground := Ground.phase }, { on := 3, ground := Ground.phase }, { on := 4, ground := Ground.phase }, { on := 5, ground := Ground.phase }, { on := 6, ground := Ground.phase }, { on := 7, ground := Ground.phase }, { on := 8, ground := Ground.phase }, { on := 9, ground := Ground.phase }, { on := 10, ground := Ground.phase }, { on := 11, ground := Ground.phase }, { on := 12, ground := Ground.phase }], guard := none }) (v := ?_) rfl (by kernel_rfl) (by kernel_rfl) (by kernel_rfl) (fun _ _ _ h => h) (Or.inl ⟨by rfl, ?_⟩) (by assumption) ?_
        rotate_left
        focus (intro w hSw; (try dsimp only at hSw); go_simp <;> with_reducible rfl)
        try simp only [Act.put, List.setIfInBounds_toArray, List.set_cons_zero, List.set_cons_succ]
        refine wpAnyH_done (by kernel_rfl) ?_ _
        clear hHeld hF g0 g1 g2' g3 g4 g5 f0 f1 f2 f3 f4 f5
        change Exit.then _ _ _ _ (way6 u2 m (.int .u32 (qb : Nat)) (.int .u32 (ay : Nat)) (.int .u32 (e' : Nat)) (.int .i64 (d' : Nat)) (.int .i64 (t' : Nat)) (.int .i64 (qf : Nat)))
        generalize way6 u2 m (.int .u32 (qb : Nat)) (.int .u32 (ay : Nat)) (.int .u32 (e' : Nat)) (.int .i64 (d' : Nat)) (.int .i64 (t' : Nat)) (.int .i64 (qf : Nat)) = u9 at HE
        have x0 : u9.cell? ⟨bx, 5, none⟩ = some (.slice (some ⟨gt, 0, none⟩) (R.P n).length pc) := HE.out.1.cell x5' (by simp)
        have x1 := HE.out.1.cell hq0 (by simp)
        have x2 := HE.out.1.cell hq1 (by simp)
        have x3 := HE.out.1.cell hq2 (by simp)
        have y0 : u9.cell? ⟨m, 0, none⟩ = some (.int .u32 (qb : Nat)) := cell_of HE.out.2 0 rfl
        have y5 : u9.cell? ⟨m, 5, none⟩ = some (.int .i64 (qf : Nat)) := cell_of HE.out.2 5 rfl
        have pp := HE.out.1.cell hp0 (by simp)
        have HKN : Hid (∀ d, Keep [] z3 (u9.drewN d)) := Lib.hid (fun d => HK.out.trans (HE.out.1.drewN d))
        clear HE hp0 hq0 hq1 hq2
        go_wp2_with fail
        go_quiet (fail)
        go_wp2_with fail
        go_roundw
        case rel => exact ⟨j + 1, _, _, by go_num, rfl, rfl, by have := HJ.out; omega, Lib.hid (HKN.out _)⟩
        case measure => simp [intOf]; have := HJ.out; omega
    · have hj1' : ¬ ((j : Int) < ((R.P n).length : Int)) := by omega
      have xu : wq.cell? ⟨bx, 2 + 1, none⟩ = some (.bool (up n)) := (HZ3.out.trans HK.out).cell (cell_of HZ.out.2 3 rfl) (by simp)
      obtain ⟨wd, hwd, hcs⟩ := word16 HAG.out.1 HAG.out.2 (HSP.out wq (HKX.out wq HK.out)).m.inv HNM.out.1 HNM.out.2
      obtain ⟨ra, hra⟩ : ∃ a, a = ro + 64 := ⟨_, rfl⟩
      have hro := HRO.out
      have r1 : IntKind.u32.wrap ((ro : Int) + 64) = (ra : Int) := by rw [IntWalk.u32_in _ (by omega)]; omega
      have r2 : (ro : Int) + 64 = (ra : Int) := by omega
      have r3 : IntKind.u32.wrap (ra : Int) = (ra : Int) := IntWalk.u32_in _ (by omega)
      have r4 : 64 + (ro : Int) = (ra : Int) := by omega
      have CW : Hid (∀ z, Keep [] wq z → Calls Try.prog 49 #[.pointer (some ⟨r, 0, none⟩), .int .u32 (ra : Nat)] z fun e w' => e = .returned (.tuple #[.int .u32 (wd : Nat), .bool true]) ∧ Keep [] z w') := Lib.hid (fun z hz => by
        have hR := (HSP.out _ (HKX.out z (HK.out.trans hz))).m.ram
        have hp : pl (List.range 60) ra = 64 * (20 + 2 * n) + 64 := by
          unfold pl
          rw [List.getD_eq_getElem?_getD, List.getElem?_range (by omega)]
          show 64 * (ra / 64) + ra % 64 = _
          omega
        have := rword_yes hR ra (by omega) (by rw [List.length_range]; omega)
        rw [hp, hwd] at this
        exact this.mono fun e w' ⟨h1, m, h2⟩ => ⟨h1, by rw [h2]; exact (Keep.refl _ _).drewN _⟩)
      have HFK : Hid (∀ z, Keep [] wq z → Keep [] x z) := Lib.hid (fun z hz => HKX.out z (HK.out.trans hz))
      clear hj hjl hra hro hwd
      rcases hcs with ⟨hu, hwv⟩ | ⟨hu, hwv⟩ | ⟨hu, hwv, hpos⟩
      · rw [hu] at xu
        rw [hwv] at CW
        clear hwv
        go_wp2_with fail
        refine (CRT.out _ HK.out).mono ?_
        rintro e z4 ⟨rfl, hk4⟩
        have HK4 := Lib.hid hk4
        replace xu := hk4.cell xu (by simp)
        clear hk4
        go_wp2_with fail
        refine (CW.out _ HK4.out).mono ?_
        rintro e z5 ⟨rfl, hk5⟩
        have HF := Lib.hid (HFK.out _ (HK4.out.trans hk5))
        replace xu := hk5.cell xu (by simp)
        clear hk5
        go_wp2_with fail
        go_ret
        exact ⟨rfl, HF.out⟩
      · rw [hu] at xu
        rw [hwv] at CW
        clear hwv
        go_wp2_with fail
        refine (CRT.out _ HK.out).mono ?_
        rintro e z4 ⟨rfl, hk4⟩
        have HK4 := Lib.hid hk4
        replace xu := hk4.cell xu (by simp)
        clear hk4
        go_wp2_with fail
        refine (CW.out _ HK4.out).mono ?_
        rintro e z5 ⟨rfl, hk5⟩
        have HF := Lib.hid (HFK.out _ (HK4.out.trans hk5))
        replace xu := hk5.cell xu (by simp)
        clear hk5
        go_wp2_with fail
        go_ret
        exact ⟨rfl, HF.out⟩
      · rw [hu] at xu
        have h0 : ((wd : Int) == 0) = false := by rw [beq_eq_false_iff_ne]; omega
        have h0' : (wd == 0) = false := by rw [beq_eq_false_iff_ne]; exact hwv
        have hl0 : decide ((0 : Int) < ((R.P n).length : Int)) = true := decide_eq_true (by omega)
        have hl1 : decide (0 < (R.P n).length) = true := decide_eq_true hpos
        clear hwv
        go_wp2_with fail
        refine (CRT.out _ HK.out).mono ?_
        rintro e z4 ⟨rfl, hk4⟩
        have HK4 := Lib.hid hk4
        replace xu := hk4.cell xu (by simp)
        clear hk4
        go_wp2_with fail
        refine (CW.out _ HK4.out).mono ?_
        rintro e z5 ⟨rfl, hk5⟩
        have HF := Lib.hid (HFK.out _ (HK4.out.trans hk5))
        replace xu := hk5.cell xu (by simp)
        clear hk5
        go_wp2_with fail
        go_ret
        exact ⟨rfl, HF.out⟩
end
end Go.Proofs.Ytpinoejckagjbaa
