/- Contracts of the functions that the law reaches, walked, and the plain laws on them (several texts in one). -/
import Derived.Outline
import Derived.Test.YtnpnedimgfbnhaaM05
import Derived.Test.YtnpnedimgfbnhaaM06

/- Look, as the document says, walked. -/
namespace Go.Proofs.Ytnpnedimgfbnhaa
open Go.RowKit Go.Mum
set_option linter.unusedVariables false

/-- The document's memory as tables are read in it. -/
structure DMem (w : World) (s : Value) (n : Nat) (rd : Nat → Option Nat) : Prop where
  word : ∀ x, Keep [] w x → ∀ a : Nat, a < 4294967296 → Calls Try.prog 52 #[.agg #[s], .int .u32 a] x (RdPost (.int .u32 (((rd a).getD 0 : Nat) : Int)) (rd a).isSome x)
  byte : ∀ x, Keep [] w x → ∀ a : Nat, a < 4294967296 → ∃ z : Int, Calls Try.prog 50 #[.agg #[s], .int .u32 a] x (RdPost (.int .u8 z) (decide (a < 64 * n)) x)
  lt : ∀ a z, rd a = some z → z < 4294967296
  n512 : n ≤ 512
  isS : ∃ a m c, s = .slice a m c

theorem Both.dmem {w : World} {r fb g q n : Nat} {L : List Int} (h : Both w r fb g q n L) : DMem w (.slice (some ⟨q, 0, none⟩) (64 * n) (64 * n)) n (rdOf n L) := by
  refine ⟨fun x hx a ha => ?_, fun x hx a ha => ⟨byteAt (List.range n) L a, ?_⟩, fun a z hz => rdOf_lt h.ref.2.1 h.len hz, by have := h.n1; omega, _, _, _, rfl⟩
  · obtain ⟨e1, e2⟩ := wordAt_rd h.ref.2.1 h.len a
    have := bword_d (h.keep0 hx).refN a ha
    rw [e1, e2] at this
    exact this
  · have := bbyte_d (h.keep0 hx).refN a ha
    have e : decide (a < 64 * n) = layB n a 1 1 := decide_eq_decide.2 (by omega)
    rw [e]
    exact this

/-- The two blocks that Look makes first: its argument, its answer (still 0). -/
def DBlk (w : World) (r : Nat) (s : Value) : Prop := w.cell? ⟨r, 0, none⟩ = some s ∧ w.heap[r + 1]? = some (.cells #[.int .u32 0, .int .u32 0, .int .u32 0, .int .i64 0, .int .i64 0, .int .i64 0] 97 (0, 0))

theorem DBlk.facts {w : World} {r : Nat} {s : Value} (h : DBlk w r s) : w.cell? ⟨r + 1, 0, none⟩ = some (.int .u32 0) ∧ w.cell? ⟨r + 1, 1, none⟩ = some (.int .u32 0) ∧ w.cell? ⟨r + 1, 2, none⟩ = some (.int .u32 0) ∧ w.cell? ⟨r + 1, 3, none⟩ = some (.int .i64 0) ∧ w.cell? ⟨r + 1, 4, none⟩ = some (.int .i64 0) ∧ w.cell? ⟨r + 1, 5, none⟩ = some (.int .i64 0) ∧ w.frozen? ⟨r + 1, 0, none⟩ = false ∧ w.frozen? ⟨r + 1, 1, none⟩ = false ∧ w.frozen? ⟨r + 1, 2, none⟩ = false ∧ w.frozen? ⟨r + 1, 3, none⟩ = false ∧ w.frozen? ⟨r + 1, 4, none⟩ = false ∧ w.frozen? ⟨r + 1, 5, none⟩ = false ∧ w.cell? ⟨r, 0, none⟩ = some s :=
  ⟨cell_of h.2 0 rfl, cell_of h.2 1 rfl, cell_of h.2 2 rfl, cell_of h.2 3 rfl, cell_of h.2 4 rfl, cell_of h.2 5 rfl, frozen_of h.2 0, frozen_of h.2 1, frozen_of h.2 2, frozen_of h.2 3, frozen_of h.2 4, frozen_of h.2 5, h.1⟩

theorem DBlk.keep {l : List Nat} {w x : World} {r : Nat} {s : Value} (h : DBlk w r s) (hk : Keep l w x) (h1 : r ∉ l) (h2 : r + 1 ∉ l) : DBlk x r s := ⟨hk.cell h.1 h1, hk.heap h.2 h2⟩

set_option maxRecDepth 100000 in
set_option maxHeartbeats 4000000 in
theorem rlook_at {w : World} {s : Value} {n : Nat} {rd : Nat → Option Nat} (h : DMem w s n rd) (root dirs va : Nat) (hr : root < 4294967296) (hd : dirs ≤ 64) (hv : va < 4294967296) :
    Calls Try.prog 33 #[.agg #[s], .int .u32 root, .int .i64 dirs, .int .u32 va] w (LookPost (lookF rd n root dirs va) w) := by
  obtain ⟨sa, sm, sc, rfl⟩ := h.isS
  have HM := Lib.hid h
  clear h
  generalize hq : lookF rd n root dirs va = q
  unfold lookF at hq
  by_cases hdv : dirs ≤ va / 1024
  · rw [if_pos hdv] at hq
    subst hq
    have hdv' : (dirs : Int) ≤ (va : Int) / 1024 := by omega
    clear hdv
    go_enter Try.func33, Try.ntmps33
    go_wp2_with fail
    exact bodyPost_ret (v := .tuple #[wayV none, .bool false]) (by simp [results, Try.results33, go_sem, wayV]) rfl ⟨rfl, ((Keep.refl _ _).alloc _).alloc _⟩
  · rw [if_neg hdv] at hq
    have hdv' : ¬ ((dirs : Int) ≤ (va : Int) / 1024) := by omega
    have hva : va / 1024 < 64 := by omega
    clear hdv
    have hD : ((root : Int) - (root : Int) % 64 + 4 * ((va : Int) / 1024)) % 4294967296 = ((dirAt root va : Nat) : Int) := by unfold dirAt; omega
    have hDl : dirAt root va < 4294967296 := by unfold dirAt; omega
    generalize dirAt root va = D at *
    have HQ := Lib.hid hq
    clear hq
    go_enter Try.func33, Try.ntmps33
    go_wp2_with fail
    refine (HM.out.word _ (((Keep.refl _ _).alloc _).alloc _) D hDl).mono ?_
    rintro e y1 ⟨rfl, hK1⟩
    have hB : DBlk y1 w.heap.size (.slice sa sm sc) := ⟨hK1.cell (cell_of (heap_alloc_other _ (heap_alloc_same w _)) 0 rfl) (by simp), hK1.heap (heap_alloc_at (n := w.heap.size + 1) _ (by simp)) (by simp)⟩
    have hsz1 : w.heap.size + 2 ≤ y1.heap.size := by have := hK1.size; simp at this; omega
    have hK1 := ((((Keep.refl [] w).alloc _).alloc _).trans hK1)
    have HK1 := Lib.hid hK1
    obtain ⟨r4, h4⟩ : ∃ r4, r4 = w.heap.size := ⟨_, rfl⟩
    rw [← h4] at hB ⊢
    have h4' : w.heap.size ≤ r4 := by omega
    have h4'' : r4 ≤ w.heap.size := by omega
    have HB := Lib.hid hB
    clear hK1 h4 hB hD
    cases hx : rd D with
    | none =>
      obtain rfl : q = none := by rw [← HQ.out, hx]
      clear hx
      simp only [Option.isSome_none, Option.getD_none]
      obtain ⟨c80, c81, c82, c83, c84, c85, f80, f81, f82, f83, f84, f85, c40⟩ := HB.out.facts
      go_wp2_with fail
      exact bodyPost_ret (v := .tuple #[wayV none, .bool false]) (by simp [results, Try.results33, go_sem, wayV, c80, c81, c82, c83, c84, c85]) rfl ⟨rfl, keep_six HK1.out (by omega)⟩
    | some x =>
      have hxl := HM.out.lt _ _ hx
      have HX := Lib.hid hx
      clear hx
      simp only [Option.isSome_some, Option.getD_some]
      by_cases hx2 : x % 2 = 0
      · obtain rfl : q = none := by rw [← HQ.out, HX.out]; simp [hx2]
        have eb : ((x : Int) % 2 == 0) = true := by rw [beq_iff_eq]; omega
        clear hx2
        obtain ⟨c80, c81, c82, c83, c84, c85, f80, f81, f82, f83, f84, f85, c40⟩ := HB.out.facts
        go_wp2_with fail
        exact bodyPost_ret (v := .tuple #[wayV none, .bool false]) (by simp [results, Try.results33, go_sem, wayV, c80, c81, c82, c83, c84, c85]) rfl ⟨rfl, keep_six HK1.out (by omega)⟩
      · have eb : ((x : Int) % 2 == 0) = false := by rw [beq_eq_false_iff_ne]; omega
        have hT : (x : Int) - (x : Int) % 64 + 4 * ((va : Int) / 64 % 16) = ((tabAt x va : Nat) : Int) := by unfold tabAt; omega
        have hTl : tabAt x va < 4294967296 := by unfold tabAt; omega
        have hq2 : (match rd (tabAt x va) with
          | none => none
          | some y => if y % 2 = 0 then none else if 64 * n ≤ endAt y va then none else some (refBits x y, endAt y va, tabAt x va, D / 64, tabAt x va / 64, endAt y va / 64)) = q := by
          rw [← HQ.out, HX.out]; simp only; rw [if_neg hx2]; rfl
        clear HQ
        have HQ := Lib.hid hq2
        have HX2 := Lib.hid hx2
        clear hq2 hx2
        generalize tabAt x va = T at *
        obtain ⟨-, -, -, -, -, -, -, -, -, -, -, -, c40⟩ := HB.out.facts
        go_wp2_with fail
        refine (HM.out.word _ HK1.out T hTl).mono ?_
        rintro e y2 ⟨rfl, hK2⟩
        have HB2 := Lib.hid (HB.out.keep hK2 (by simp) (by simp))
        have hsz2 := hK2.size
        have HK2 := Lib.hid (HK1.out.trans hK2)
        clear c40 hT eb hK2
        cases hy : rd T with
        | none =>
          obtain rfl : q = none := by rw [← HQ.out, hy]
          clear hy
          simp only [Option.isSome_none, Option.getD_none]
          obtain ⟨c80, c81, c82, c83, c84, c85, f80, f81, f82, f83, f84, f85, c40⟩ := HB2.out.facts
          go_wp2_with fail
          exact bodyPost_ret (v := .tuple #[wayV none, .bool false]) (by simp [results, Try.results33, go_sem, wayV, c80, c81, c82, c83, c84, c85]) rfl ⟨rfl, keep_six HK2.out (by omega)⟩
        | some y =>
          have hyl := HM.out.lt _ _ hy
          have HY := Lib.hid hy
          clear hy
          simp only [Option.isSome_some, Option.getD_some]
          by_cases hy2 : y % 2 = 0
          · obtain rfl : q = none := by rw [← HQ.out, HY.out]; simp [hy2]
            have eb : ((y : Int) % 2 == 0) = true := by rw [beq_iff_eq]; omega
            clear hy2
            obtain ⟨c80, c81, c82, c83, c84, c85, f80, f81, f82, f83, f84, f85, c40⟩ := HB2.out.facts
            go_wp2_with fail
            exact bodyPost_ret (v := .tuple #[wayV none, .bool false]) (by simp [results, Try.results33, go_sem, wayV, c80, c81, c82, c83, c84, c85]) rfl ⟨rfl, keep_six HK2.out (by omega)⟩
          · have eb : ((y : Int) % 2 == 0) = false := by rw [beq_eq_false_iff_ne]; omega
            have hE : (y : Int) - (y : Int) % 64 + (va : Int) % 64 = ((endAt y va : Nat) : Int) := by unfold endAt; omega
            have hEl : endAt y va < 4294967296 := by unfold endAt; omega
            have hq2 : (if 64 * n ≤ endAt y va then none else some (refBits x y, endAt y va, T, D / 64, T / 64, endAt y va / 64)) = q := by
              rw [← HQ.out, HY.out]; simp only; rw [if_neg hy2]
            clear HQ
            have HQ := Lib.hid hq2
            have HY2 := Lib.hid hy2
            clear hq2 hy2
            generalize endAt y va = E at *
            obtain ⟨zb, C⟩ := HM.out.byte y2 HK2.out E hEl
            obtain ⟨-, -, -, -, -, -, -, -, -, -, -, -, c40⟩ := HB2.out.facts
            by_cases hE2 : 64 * n ≤ E
            · obtain rfl : q = none := by rw [← HQ.out, if_pos hE2]
              rw [decide_eq_false (by omega)] at C
              have C := Lib.hid C
              clear hE2
              go_wp2_with fail
              refine C.out.mono ?_
              rintro e y3 ⟨rfl, hK3⟩
              have HB3 := Lib.hid (HB2.out.keep hK3 (by simp) (by simp))
              have HK3 := Lib.hid (HK2.out.trans hK3)
              clear c40 hK3
              obtain ⟨c80, c81, c82, c83, c84, c85, f80, f81, f82, f83, f84, f85, c40⟩ := HB3.out.facts
              go_wp2_with fail
              exact bodyPost_ret (v := .tuple #[wayV none, .bool false]) (by simp [results, Try.results33, go_sem, wayV, c80, c81, c82, c83, c84, c85]) rfl ⟨rfl, keep_six HK3.out (by omega)⟩
            · have hq3 : some (refBits x y, E, T, D / 64, T / 64, E / 64) = q := by rw [← HQ.out, if_neg hE2]
              rw [decide_eq_true (by omega)] at C
              have C := Lib.hid C
              have HQ3 := Lib.hid hq3
              clear hE2 hq3
              go_wp2_with fail
              refine C.out.mono ?_
              rintro e y3 ⟨rfl, hK3⟩
              have HB3 := Lib.hid (HB2.out.keep hK3 (by simp) (by simp))
              have hsz3 := hK3.size
              have HK3 := Lib.hid (HK2.out.trans hK3)
              clear c40 hK3 eb hE
              go_upto_region 16 with fail
              obtain ⟨r6, h6⟩ : ∃ r6, r6 = y3.heap.size := ⟨_, rfl⟩
              rw [← h6]
              have h6' : r4 + 1 < r6 := by omega
              generalize hz0 : y3.alloc _ = z0
              have hbl0 : z0.heap[r6]? = some (.cells #[.int .u32 ((1 : Nat) : Int), .int .u32 E, .int .u32 T, .int .i64 ((D / 64 : Nat) : Int), .int .i64 ((T / 64 : Nat) : Int), .int .i64 ((E / 64 : Nat) : Int)] 97 (0, 0)) := by
                subst hz0 h6
                rw [heap_alloc_same]
                simp
              have HZ0 : Hid (DBlk z0 r4 (.slice sa sm sc) ∧ Keep [] w z0) := Lib.hid (by
                subst hz0
                exact ⟨HB3.out.keep ((Keep.refl [] _).alloc _) (by simp) (by simp), HK3.out.alloc _⟩)
              have HBL0 := Lib.hid hbl0
              clear hz0 hbl0 h6
              obtain ⟨b0, hb0e⟩ : ∃ b0 : Nat, b0 = 1 := ⟨_, rfl⟩
              have HE0 := Lib.hid hb0e
              have hb0 : b0 < 2 := by omega
              rw [← hb0e] at HBL0
              clear hb0e
              go_cut [101] (fun sv wx => sv = .bool (hasB x 2 && hasB y 2) ∧ z0 = wx)
              case first =>
                cases e1 : hasB x 2
                · have Cx := has_at x 2 hxl (by omega) (by omega) z0
                  rw [e1] at Cx
                  have Cx := Lib.hid Cx
                  have E1 := Lib.hid e1
                  clear e1
                  go_wp2_with fail
                  refine Cx.out.mono ?_
                  rintro e z ⟨rfl, rfl⟩
                  go_wp2_with fail
                  go_meet
                  exact ⟨by rw [E1.out]; rfl, rfl⟩
                · have Cx := has_at x 2 hxl (by omega) (by omega) z0
                  rw [e1] at Cx
                  have Cx := Lib.hid Cx
                  cases e2 : hasB y 2
                  · have Cy := has_at y 2 hyl (by omega) (by omega) z0
                    rw [e2] at Cy
                    have Cy := Lib.hid Cy
                    have E1 := Lib.hid e1
                    have E2 := Lib.hid e2
                    clear e1 e2
                    go_wp2_with fail
                    refine Cx.out.mono ?_
                    rintro e z ⟨rfl, rfl⟩
                    go_wp2_with fail
                    refine Cy.out.mono ?_
                    rintro e z ⟨rfl, rfl⟩
                    go_wp2_with fail
                    go_meet
                    exact ⟨by rw [E1.out, E2.out]; rfl, rfl⟩
                  · have Cy := has_at y 2 hyl (by omega) (by omega) z0
                    rw [e2] at Cy
                    have Cy := Lib.hid Cy
                    have E1 := Lib.hid e1
                    have E2 := Lib.hid e2
                    clear e1 e2
                    go_wp2_with fail
                    refine Cx.out.mono ?_
                    rintro e z ⟨rfl, rfl⟩
                    go_wp2_with fail
                    refine Cy.out.mono ?_
                    rintro e z ⟨rfl, rfl⟩
                    go_wp2_with fail
                    go_meet
                    exact ⟨by rw [E1.out, E2.out]; rfl, rfl⟩
              case rest =>
              obtain ⟨rfl, rfl⟩ := hcut
              generalize hcc : (hasB x 2 && hasB y 2) = cc
              go_upto_if 101 with fail
              go_cut [] (fun wx => wx.heap[r6]? = some (.cells #[.int .u32 ((b0 + (if cc = true then 2 else 0) : Nat) : Int), .int .u32 E, .int .u32 T, .int .i64 ((D / 64 : Nat) : Int), .int .i64 ((T / 64 : Nat) : Int), .int .i64 ((E / 64 : Nat) : Int)] 97 (0, 0)) ∧ Keep [r6] z0 wx)
              case first =>
                clear hcc
                cases cc
                · go_wp2_with fail
                  go_meet
                  exact ⟨by simpa using HBL0.out, Keep.refl _ _⟩
                · have g0 := cell_of HBL0.out 0 rfl
                  have gf := frozen_of HBL0.out 0
                  go_wp2_with fail
                  go_meet
                  exact ⟨by simpa using heap_set_same HBL0.out 0 _, (Keep.refl _ _).setCell (.inl (by simp)) _⟩
              case rest =>
              obtain ⟨hbl1, hk1⟩ := hcut
              have HZ1 := Lib.hid (And.intro (HZ0.out.1.keep hk1 (by simp; omega) (by simp; omega)) (HZ0.out.2.then hk1 (fun k hk hlt => by simp at hk; omega)))
              obtain ⟨b1, hb1e⟩ : ∃ b1 : Nat, b1 = b0 + (if cc = true then 2 else 0) := ⟨_, rfl⟩
              rw [← hb1e] at hbl1
              have hb1 : b1 < 4 := by rw [hb1e]; split <;> omega
              rw [← hcc] at hb1e
              have HE1 := Lib.hid hb1e
              have HBL1 := Lib.hid hbl1
              clear hb1e hbl1 hk1 hcc
              obtain ⟨z1, hz1⟩ : ∃ z : World, z = wc := ⟨_, rfl⟩
              rw [← hz1] at HBL1 HZ1 ⊢
              clear hz1
              go_upto_region 18 with fail
              go_cut [111] (fun sv wx => sv = .bool (hasB x 4 && hasB y 4) ∧ z1 = wx)
              case first =>
                cases e1 : hasB x 4
                · have Cx := has_at x 4 hxl (by omega) (by omega) z1
                  rw [e1] at Cx
                  have Cx := Lib.hid Cx
                  have E1 := Lib.hid e1
                  clear e1
                  go_wp2_with fail
                  refine Cx.out.mono ?_
                  rintro e z ⟨rfl, rfl⟩
                  go_wp2_with fail
                  go_meet
                  exact ⟨by rw [E1.out]; rfl, rfl⟩
                · have Cx := has_at x 4 hxl (by omega) (by omega) z1
                  rw [e1] at Cx
                  have Cx := Lib.hid Cx
                  cases e2 : hasB y 4
                  · have Cy := has_at y 4 hyl (by omega) (by omega) z1
                    rw [e2] at Cy
                    have Cy := Lib.hid Cy
                    have E1 := Lib.hid e1
                    have E2 := Lib.hid e2
                    clear e1 e2
                    go_wp2_with fail
                    refine Cx.out.mono ?_
                    rintro e z ⟨rfl, rfl⟩
                    go_wp2_with fail
                    refine Cy.out.mono ?_
                    rintro e z ⟨rfl, rfl⟩
                    go_wp2_with fail
                    go_meet
                    exact ⟨by rw [E1.out, E2.out]; rfl, rfl⟩
                  · have Cy := has_at y 4 hyl (by omega) (by omega) z1
                    rw [e2] at Cy
                    have Cy := Lib.hid Cy
                    have E1 := Lib.hid e1
                    have E2 := Lib.hid e2
                    clear e1 e2
                    go_wp2_with fail
                    refine Cx.out.mono ?_
                    rintro e z ⟨rfl, rfl⟩
                    go_wp2_with fail
                    refine Cy.out.mono ?_
                    rintro e z ⟨rfl, rfl⟩
                    go_wp2_with fail
                    go_meet
                    exact ⟨by rw [E1.out, E2.out]; rfl, rfl⟩
              case rest =>
              obtain ⟨rfl, rfl⟩ := hcut
              generalize hcc : (hasB x 4 && hasB y 4) = cc
              go_upto_if 111 with fail
              go_cut [] (fun wx => wx.heap[r6]? = some (.cells #[.int .u32 ((b1 + (if cc = true then 4 else 0) : Nat) : Int), .int .u32 E, .int .u32 T, .int .i64 ((D / 64 : Nat) : Int), .int .i64 ((T / 64 : Nat) : Int), .int .i64 ((E / 64 : Nat) : Int)] 97 (0, 0)) ∧ Keep [r6] z1 wx)
              case first =>
                clear hcc
                cases cc
                · go_wp2_with fail
                  go_meet
                  exact ⟨by simpa using HBL1.out, Keep.refl _ _⟩
                · have g0 := cell_of HBL1.out 0 rfl
                  have gf := frozen_of HBL1.out 0
                  go_wp2_with fail
                  go_meet
                  exact ⟨by simpa using heap_set_same HBL1.out 0 _, (Keep.refl _ _).setCell (.inl (by simp)) _⟩
              case rest =>
              obtain ⟨hbl2, hk2⟩ := hcut
              have HZ2 := Lib.hid (And.intro (HZ1.out.1.keep hk2 (by simp; omega) (by simp; omega)) (HZ1.out.2.then hk2 (fun k hk hlt => by simp at hk; omega)))
              obtain ⟨b2, hb2e⟩ : ∃ b2 : Nat, b2 = b1 + (if cc = true then 4 else 0) := ⟨_, rfl⟩
              rw [← hb2e] at hbl2
              have hb2 : b2 < 8 := by rw [hb2e]; split <;> omega
              rw [← hcc] at hb2e
              have HE2 := Lib.hid hb2e
              have HBL2 := Lib.hid hbl2
              clear hb2e hbl2 hk2 hcc
              obtain ⟨z2, hz2⟩ : ∃ z : World, z = wc := ⟨_, rfl⟩
              rw [← hz2] at HBL2 HZ2 ⊢
              clear hz2
              go_upto_region 20 with fail
              go_cut [121] (fun sv wx => sv = .bool (hasB x 8 || hasB y 8) ∧ z2 = wx)
              case first =>
                cases e1 : hasB x 8
                · have Cx := has_at x 8 hxl (by omega) (by omega) z2
                  rw [e1] at Cx
                  have Cx := Lib.hid Cx
                  cases e2 : hasB y 8
                  · have Cy := has_at y 8 hyl (by omega) (by omega) z2
                    rw [e2] at Cy
                    have Cy := Lib.hid Cy
                    have E1 := Lib.hid e1
                    have E2 := Lib.hid e2
                    clear e1 e2
                    go_wp2_with fail
                    refine Cx.out.mono ?_
                    rintro e z ⟨rfl, rfl⟩
                    go_wp2_with fail
                    refine Cy.out.mono ?_
                    rintro e z ⟨rfl, rfl⟩
                    go_wp2_with fail
                    go_meet
                    exact ⟨by rw [E1.out, E2.out]; rfl, rfl⟩
                  · have Cy := has_at y 8 hyl (by omega) (by omega) z2
                    rw [e2] at Cy
                    have Cy := Lib.hid Cy
                    have E1 := Lib.hid e1
                    have E2 := Lib.hid e2
                    clear e1 e2
                    go_wp2_with fail
                    refine Cx.out.mono ?_
                    rintro e z ⟨rfl, rfl⟩
                    go_wp2_with fail
                    refine Cy.out.mono ?_
                    rintro e z ⟨rfl, rfl⟩
                    go_wp2_with fail
                    go_meet
                    exact ⟨by rw [E1.out, E2.out]; rfl, rfl⟩
                · have Cx := has_at x 8 hxl (by omega) (by omega) z2
                  rw [e1] at Cx
                  have Cx := Lib.hid Cx
                  have E1 := Lib.hid e1
                  clear e1
                  go_wp2_with fail
                  refine Cx.out.mono ?_
                  rintro e z ⟨rfl, rfl⟩
                  go_wp2_with fail
                  go_meet
                  exact ⟨by rw [E1.out]; rfl, rfl⟩
              case rest =>
              obtain ⟨rfl, rfl⟩ := hcut
              generalize hcc : (hasB x 8 || hasB y 8) = cc
              go_upto_if 121 with fail
              go_cut [] (fun wx => wx.heap[r6]? = some (.cells #[.int .u32 ((b2 + (if cc = true then 8 else 0) : Nat) : Int), .int .u32 E, .int .u32 T, .int .i64 ((D / 64 : Nat) : Int), .int .i64 ((T / 64 : Nat) : Int), .int .i64 ((E / 64 : Nat) : Int)] 97 (0, 0)) ∧ Keep [r6] z2 wx)
              case first =>
                clear hcc
                cases cc
                · go_wp2_with fail
                  go_meet
                  exact ⟨by simpa using HBL2.out, Keep.refl _ _⟩
                · have g0 := cell_of HBL2.out 0 rfl
                  have gf := frozen_of HBL2.out 0
                  go_wp2_with fail
                  go_meet
                  exact ⟨by simpa using heap_set_same HBL2.out 0 _, (Keep.refl _ _).setCell (.inl (by simp)) _⟩
              case rest =>
              obtain ⟨hbl3, hk3⟩ := hcut
              have HZ3 := Lib.hid (And.intro (HZ2.out.1.keep hk3 (by simp; omega) (by simp; omega)) (HZ2.out.2.then hk3 (fun k hk hlt => by simp at hk; omega)))
              obtain ⟨b3, hb3e⟩ : ∃ b3 : Nat, b3 = b2 + (if cc = true then 8 else 0) := ⟨_, rfl⟩
              rw [← hb3e] at hbl3
              have hb3 : b3 < 16 := by rw [hb3e]; split <;> omega
              rw [← hcc] at hb3e
              have HE3 := Lib.hid hb3e
              have HBL3 := Lib.hid hbl3
              clear hb3e hbl3 hk3 hcc
              obtain ⟨z3, hz3⟩ : ∃ z : World, z = wc := ⟨_, rfl⟩
              rw [← hz3] at HBL3 HZ3 ⊢
              clear hz3
              go_upto_region 22 with fail
              go_cut [127] (fun sv wx => sv = .bool (hasB y 16) ∧ z3 = wx)
              case first =>
                have Cy := Lib.hid (has_at y 16 hyl (by omega) (by omega) z3)
                go_wp2_with fail
                refine Cy.out.mono ?_
                rintro e z ⟨rfl, rfl⟩
                go_wp2_with fail
                go_meet
                exact ⟨rfl, rfl⟩
              case rest =>
              obtain ⟨rfl, rfl⟩ := hcut
              generalize hcc : (hasB y 16) = cc
              go_upto_if 127 with fail
              go_cut [] (fun wx => wx.heap[r6]? = some (.cells #[.int .u32 ((b3 + (if cc = true then 16 else 0) : Nat) : Int), .int .u32 E, .int .u32 T, .int .i64 ((D / 64 : Nat) : Int), .int .i64 ((T / 64 : Nat) : Int), .int .i64 ((E / 64 : Nat) : Int)] 97 (0, 0)) ∧ Keep [r6] z3 wx)
              case first =>
                clear hcc
                cases cc
                · go_wp2_with fail
                  go_meet
                  exact ⟨by simpa using HBL3.out, Keep.refl _ _⟩
                · have g0 := cell_of HBL3.out 0 rfl
                  have gf := frozen_of HBL3.out 0
                  go_wp2_with fail
                  go_meet
                  exact ⟨by simpa using heap_set_same HBL3.out 0 _, (Keep.refl _ _).setCell (.inl (by simp)) _⟩
              case rest =>
              obtain ⟨hbl4, hk4⟩ := hcut
              have HZ4 := Lib.hid (And.intro (HZ3.out.1.keep hk4 (by simp; omega) (by simp; omega)) (HZ3.out.2.then hk4 (fun k hk hlt => by simp at hk; omega)))
              obtain ⟨b4, hb4e⟩ : ∃ b4 : Nat, b4 = b3 + (if cc = true then 16 else 0) := ⟨_, rfl⟩
              rw [← hb4e] at hbl4
              have hb4 : b4 < 32 := by rw [hb4e]; split <;> omega
              rw [← hcc] at hb4e
              have HE4 := Lib.hid hb4e
              have HBL4 := Lib.hid hbl4
              clear hb4e hbl4 hk4 hcc
              obtain ⟨z4, hz4⟩ : ∃ z : World, z = wc := ⟨_, rfl⟩
              rw [← hz4] at HBL4 HZ4 ⊢
              clear hz4
              obtain ⟨c80, c81, c82, c83, c84, c85, f80, f81, f82, f83, f84, f85, -⟩ := HZ4.out.1.facts
              have g0 := cell_of HBL4.out 0 rfl
              have g1 := cell_of HBL4.out 1 rfl
              have g2 := cell_of HBL4.out 2 rfl
              have g3 := cell_of HBL4.out 3 rfl
              have g4 := cell_of HBL4.out 4 rfl
              have g5 := cell_of HBL4.out 5 rfl
              have hfin : b4 = refBits x y := by
                rw [HE4.out, HE3.out, HE2.out, HE1.out, HE0.out]
                unfold refBits hasB
                simp
              have HFIN := Lib.hid hfin
              clear hfin
              go_wp2_with fail
              rw [← HQ3.out, ← HFIN.out]
              exact bodyPost_ret (v := .tuple #[wayV (some (b4, E, T, D / 64, T / 64, E / 64)), .bool true]) (by simp [results, Try.results33, go_sem, wayV, c80, c81, c82, c83, c84, c85]) rfl ⟨rfl, keep_six HZ4.out.2 (by omega)⟩
end Go.Proofs.Ytnpnedimgfbnhaa
