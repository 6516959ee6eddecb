/- Contracts of the functions that the law reaches, walked, and the plain laws on them (several texts in one). -/
import Derived.Outline
import Derived.Test.YtpinoejckagjbaaM05

/- Look, walked. -/
namespace Go.Proofs.Ytpinoejckagjbaa
open Go.RowKit Go.Mum
set_option linter.unusedVariables false

/-- The three blocks that Look makes: its answer (still 0), the entries, their places. -/
def Blk (w : World) (r : Nat) (e0 e1 p0 p1 : Int) : Prop :=
  w.heap[r]? = some (.cells #[.int .u32 0, .int .u32 0, .int .u32 0, .int .i64 0, .int .i64 0, .int .i64 0] 36 (0, 0)) ∧ w.heap[r + 1]? = some (.cells #[.int .u32 e0, .int .u32 e1] 115 (0, 0)) ∧ w.heap[r + 1 + 1]? = some (.cells #[.int .u32 p0, .int .u32 p1] 115 (0, 0))

theorem Blk.facts {w : World} {r : Nat} {e0 e1 p0 p1 : Int} (h : Blk w r e0 e1 p0 p1) : w.cell? ⟨r, 0, none⟩ = some (.int .u32 0) ∧ w.cell? ⟨r, 1, none⟩ = some (.int .u32 0) ∧ w.cell? ⟨r, 2, none⟩ = some (.int .u32 0) ∧ w.cell? ⟨r, 3, none⟩ = some (.int .i64 0) ∧ w.cell? ⟨r, 4, none⟩ = some (.int .i64 0) ∧ w.cell? ⟨r, 5, none⟩ = some (.int .i64 0) ∧ w.frozen? ⟨r, 0, none⟩ = false ∧ w.frozen? ⟨r, 1, none⟩ = false ∧ w.frozen? ⟨r, 2, none⟩ = false ∧ w.frozen? ⟨r, 3, none⟩ = false ∧ w.frozen? ⟨r, 4, none⟩ = false ∧ w.frozen? ⟨r, 5, none⟩ = false ∧ w.cell? ⟨r + 1, 0, none⟩ = some (.int .u32 e0) ∧ w.cell? ⟨r + 1, 1, none⟩ = some (.int .u32 e1) ∧ w.frozen? ⟨r + 1, 0, none⟩ = false ∧ w.frozen? ⟨r + 1, 1, none⟩ = false ∧ w.cell? ⟨r + 1 + 1, 0, none⟩ = some (.int .u32 p0) ∧ w.cell? ⟨r + 1 + 1, 1, none⟩ = some (.int .u32 p1) ∧ w.frozen? ⟨r + 1 + 1, 0, none⟩ = false ∧ w.frozen? ⟨r + 1 + 1, 1, none⟩ = false :=
  ⟨cell_of h.1 0 rfl, cell_of h.1 1 rfl, cell_of h.1 2 rfl, cell_of h.1 3 rfl, cell_of h.1 4 rfl, cell_of h.1 5 rfl, frozen_of h.1 0, frozen_of h.1 1, frozen_of h.1 2, frozen_of h.1 3, frozen_of h.1 4, frozen_of h.1 5, cell_of h.2.1 0 rfl, cell_of h.2.1 1 rfl, frozen_of h.2.1 0, frozen_of h.2.1 1, cell_of h.2.2 0 rfl, cell_of h.2.2 1 rfl, frozen_of h.2.2 0, frozen_of h.2.2 1⟩

theorem Blk.keep0 {w x : World} {r : Nat} {e0 e1 p0 p1 : Int} (h : Blk w r e0 e1 p0 p1) (hk : Keep [] w x) : Blk x r e0 e1 p0 p1 := ⟨hk.heap h.1 (by simp), hk.heap h.2.1 (by simp), hk.heap h.2.2 (by simp)⟩
theorem Blk.e0 {w : World} {r : Nat} {e0 e1 p0 p1 : Int} (h : Blk w r e0 e1 p0 p1) (z : Int) : Blk (w.setCell ⟨r + 1, 0, none⟩ (.int .u32 z)) r z e1 p0 p1 :=
  ⟨by rw [heap_set_other (by omega)]; exact h.1, heap_set_same h.2.1 0 _, by rw [heap_set_other (by omega)]; exact h.2.2⟩
theorem Blk.e1 {w : World} {r : Nat} {e0 e1 p0 p1 : Int} (h : Blk w r e0 e1 p0 p1) (z : Int) : Blk (w.setCell ⟨r + 1, 1, none⟩ (.int .u32 z)) r e0 z p0 p1 :=
  ⟨by rw [heap_set_other (by omega)]; exact h.1, heap_set_same h.2.1 1 _, by rw [heap_set_other (by omega)]; exact h.2.2⟩
theorem Blk.p1 {w : World} {r : Nat} {e0 e1 p0 p1 : Int} (h : Blk w r e0 e1 p0 p1) (z : Int) : Blk (w.setCell ⟨r + 1 + 1, 1, none⟩ (.int .u32 z)) r e0 e1 p0 z :=
  ⟨by rw [heap_set_other (by omega)]; exact h.1, by rw [heap_set_other (by omega)]; exact h.2.1, heap_set_same h.2.2 1 _⟩

theorem keep_in {w x : World} {b : Nat} (h : Keep [] w x) (hb : w.heap.size ≤ b) (i : Nat) (u : Value) : Keep [] w (x.setCell ⟨b, i, none⟩ u) := h.setCell (.inr hb) u

theorem keep_six {w x : World} {b : Nat} {u0 u1 u2 u3 u4 u5 : Value} (h : Keep [] w x) (hb : w.heap.size ≤ b) : Keep [] w ((((((x.setCell ⟨b, 0, none⟩ u0).setCell ⟨b, 1, none⟩ u1).setCell ⟨b, 2, none⟩ u2).setCell ⟨b, 3, none⟩ u3).setCell ⟨b, 4, none⟩ u4).setCell ⟨b, 5, none⟩ u5) :=
  (((((h.setCell (.inr hb) _).setCell (.inr hb) _).setCell (.inr hb) _).setCell (.inr hb) _).setCell (.inr hb) _).setCell (.inr hb) _

theorem mask_u32 (x i : Nat) (hi : i ≤ 32) (m : Int) (hm : (2 : Int) ^ i - 1 = m) (hx : x < 4294967296) : bits .and .u32 (x : Int) m = ((x % 2 ^ i : Nat) : Int) := by
  have := bits_mask .u32 32 (by decide) wraps_u32 i hi (x : Int) (by omega) (by show (x : Int) < 4294967296; omega)
  rw [hm] at this
  rw [this]
  simp

set_option maxRecDepth 100000 in
set_option maxHeartbeats 4000000 in
theorem look_at {w : World} {v : Value} {n : Nat} {rd : Nat → Option Nat} (h : Mem w v n rd) (root dirs va : Nat) (hr : root < 4294967296) (hd : dirs ≤ 64) (hv : va < 4294967296) :
    Calls Try.prog 15 #[v, .int .u32 root, .int .i64 dirs, .int .u32 va] w (LookPost (lookF rd n root dirs va) w) := by
  have HM := Lib.hid h
  clear h
  generalize hq : lookF rd n root dirs va = q
  unfold lookF at hq
  by_cases hdv : dirs ≤ va / 1024
  · rw [if_pos hdv] at hq
    subst hq
    have hdv' : (dirs : Int) ≤ (va : Int) / 1024 := by omega
    clear hdv
    go_enter Try.func15, Try.ntmps15
    go_wp2_with fail
    exact bodyPost_ret (v := .tuple #[wayV none, .bool false]) (by simp [results, Try.results15, go_sem, wayV]) rfl ⟨rfl, (Keep.refl _ _).alloc _⟩
  · rw [if_neg hdv] at hq
    have hdv' : ¬ ((dirs : Int) ≤ (va : Int) / 1024) := by omega
    have hva : va / 1024 < 64 := by omega
    clear hdv
    have e15 : bits .and .u32 ((va : Int) / 64) 15 = ((va / 64 % 16 : Nat) : Int) := by
      have := mask_u32 (va / 64) 4 (by decide) 15 rfl (by omega)
      rw [show (((va / 64 : Nat)) : Int) = (va : Int) / 64 by omega] at this
      exact this
    have e63 := andNot63 root hr
    have i0 : ∀ (a b : Int) (w : World), (Instr.index 115 (.agg #[.int .u32 a, .int .u32 b]) (.int .i64 0)).run Try.prog w = .ok (.int .u32 a) w := fun _ _ _ => by kernel_rfl
    have i1 : ∀ (a b : Int) (w : World), (Instr.index 115 (.agg #[.int .u32 a, .int .u32 b]) (.int .i64 1)).run Try.prog w = .ok (.int .u32 b) w := fun _ _ _ => by kernel_rfl
    have hD : ((root : Int) / 64 * 64 + 4 * ((va : Int) / 1024)) % 4294967296 = ((dirAt root va : Nat) : Int) := by unfold dirAt; omega
    have hDl : dirAt root va < 4294967296 := by unfold dirAt; omega
    generalize dirAt root va = D at *
    have HQ := Lib.hid hq
    clear hq
    go_enter Try.func15, Try.ntmps15
    go_wp2_with fail
    refine wp_loop_rounds 3 ?_
    rw [rounds_succ]
    go_wp2_with fail
    refine (HM.out.word _ (((Keep.refl _ _).alloc _).alloc _ |>.alloc _) D hDl).mono ?_
    rintro e y1 ⟨rfl, hK1⟩
    have hB : Blk y1 w.heap.size 0 0 D 0 := ⟨hK1.heap (heap_alloc_other _ (heap_alloc_other _ (heap_alloc_same w _))) (by simp), hK1.heap (heap_alloc_other _ (heap_alloc_at (n := w.heap.size + 1) _ (by simp))) (by simp), hK1.heap (heap_alloc_at (n := w.heap.size + 1 + 1) _ (by simp)) (by simp)⟩
    have HK1 := Lib.hid ((((Keep.refl [] w).alloc _).alloc _ |>.alloc _).trans hK1)
    obtain ⟨r8, h8⟩ : ∃ r8, r8 = w.heap.size := ⟨_, rfl⟩
    rw [← h8] at hB ⊢
    have H8 := Lib.hid h8
    have HB := Lib.hid hB
    clear hK1 h8 hB e63 e15 hD
    cases hx : rd D with
    | none =>
      obtain rfl : q = none := by rw [← HQ.out, hx]
      clear hx
      simp only [Option.isSome_none, Option.getD_none]
      obtain ⟨c80, c81, c82, c83, c84, c85, f80, f81, f82, f83, f84, f85, -⟩ := HB.out.facts
      go_wp2_with fail
      exact bodyPost_ret (v := .tuple #[wayV none, .bool false]) (by simp [results, Try.results15, go_sem, wayV, c80, c81, c82, c83, c84, c85]) rfl ⟨rfl, keep_six HK1.out (by have h8 := H8.out; omega)⟩
    | some x =>
      have hxl := HM.out.lt _ _ hx
      have HX := Lib.hid hx
      clear hx
      simp only [Option.isSome_some, Option.getD_some]
      by_cases hx2 : x % 2 = 0
      · obtain rfl : q = none := by rw [← HQ.out, HX.out]; simp [hx2]
        have eb : bits .and .u32 (x : Int) 1 = 0 := by rw [mask_u32 x 1 (by decide) 1 rfl hxl, show x % 2 ^ 1 = x % 2 by rfl, hx2]; rfl
        clear hx2
        obtain ⟨c80, c81, c82, c83, c84, c85, f80, f81, f82, f83, f84, f85, -⟩ := HB.out.facts
        go_wp2_with fail
        exact bodyPost_ret (v := .tuple #[wayV none, .bool false]) (by simp [results, Try.results15, go_sem, wayV, c80, c81, c82, c83, c84, c85]) rfl ⟨rfl, keep_six HK1.out (by have h8 := H8.out; omega)⟩
      · have eb : bits .and .u32 (x : Int) 1 = 1 := by rw [mask_u32 x 1 (by decide) 1 rfl hxl, show x % 2 ^ 1 = 1 by show x % 2 = 1; omega]; rfl
        have e63 := andNot63 x hxl
        have e15 : bits .and .u32 ((va : Int) / 64) 15 = ((va / 64 % 16 : Nat) : Int) := by
          have := mask_u32 (va / 64) 4 (by decide) 15 rfl (by omega)
          rw [show (((va / 64 : Nat)) : Int) = (va : Int) / 64 by omega] at this
          exact this
        have hT : (x : Int) / 64 * 64 + 4 * ((va : Int) / 64 % 16) = ((tabAt x va : Nat) : Int) := by unfold tabAt; omega
        have hTl : tabAt x va < 4294967296 := by unfold tabAt; omega
        have hq2 : (match rd (tabAt x va) with
          | none => none
          | some y => if y % 2 = 0 then none else if 64 * n ≤ endAt y va then none else some (refBits x y, endAt y va, tabAt x va, D / 64, tabAt x va / 64, endAt y va / 64)) = q := by
          rw [← HQ.out, HX.out]; simp only; rw [if_neg hx2]; rfl
        clear HQ
        have HQ := Lib.hid hq2
        have HX2 := Lib.hid hx2
        clear hq2 hx2
        generalize tabAt x va = T at *
        obtain ⟨-, -, -, -, -, -, -, -, -, -, -, -, c110, -, f110, -, -, c121, -, f121⟩ := HB.out.facts
        go_wp2_with fail
        rw [rounds_succ]
        go_wp2_with fail
        refine (HM.out.word _ ?_ T hTl).mono ?_
        · have h8 := H8.out
          iterate 4 (try refine keep_in ?_ (by omega) _ _)
          exact HK1.out
        rintro e y2 ⟨rfl, hK2⟩
        have hB2 := ((HB.out.e0 x).p1 T).keep0 hK2
        have HK2 : Hid (Keep [] w y2) := Lib.hid (by
          have h8 := H8.out
          exact ((HK1.out.setCell (.inr (by simp; omega)) _).setCell (.inr (by simp; omega)) _).trans hK2)
        clear c110 f110 c121 f121 hT e63 e15 eb
        have HB2 := Lib.hid hB2
        clear hB2 hK2
        cases hy : rd T with
        | none =>
          obtain rfl : q = none := by rw [← HQ.out, hy]
          clear hy
          simp only [Option.isSome_none, Option.getD_none]
          obtain ⟨c80, c81, c82, c83, c84, c85, f80, f81, f82, f83, f84, f85, -⟩ := HB2.out.facts
          go_wp2_with fail
          exact bodyPost_ret (v := .tuple #[wayV none, .bool false]) (by simp [results, Try.results15, go_sem, wayV, c80, c81, c82, c83, c84, c85]) rfl ⟨rfl, keep_six HK2.out (by have h8 := H8.out; omega)⟩
        | some y =>
          have hyl := HM.out.lt _ _ hy
          have HY := Lib.hid hy
          clear hy
          simp only [Option.isSome_some, Option.getD_some]
          by_cases hy2 : y % 2 = 0
          · obtain rfl : q = none := by rw [← HQ.out, HY.out]; simp [hy2]
            have eb : bits .and .u32 (y : Int) 1 = 0 := by rw [mask_u32 y 1 (by decide) 1 rfl hyl, show y % 2 ^ 1 = y % 2 by rfl, hy2]; rfl
            clear hy2
            obtain ⟨c80, c81, c82, c83, c84, c85, f80, f81, f82, f83, f84, f85, -⟩ := HB2.out.facts
            go_wp2_with fail
            exact bodyPost_ret (v := .tuple #[wayV none, .bool false]) (by simp [results, Try.results15, go_sem, wayV, c80, c81, c82, c83, c84, c85]) rfl ⟨rfl, keep_six HK2.out (by have h8 := H8.out; omega)⟩
          · have eb : bits .and .u32 (y : Int) 1 = 1 := by rw [mask_u32 y 1 (by decide) 1 rfl hyl, show y % 2 ^ 1 = 1 by show y % 2 = 1; omega]; rfl
            have e63 := andNot63 y hyl
            have em := mask_u32 va 6 (by decide) 63 rfl hv
            have hE : bits .or .u32 ((y : Int) / 64 * 64) ((va : Int) % 64) = ((endAt y va : Nat) : Int) := by
              rw [bits_join .u32 32 (by decide) wraps_u32 6 _ _ (by omega) (by show (y : Int) / 64 * 64 % 64 = 0; omega) (by show (y : Int) / 64 * 64 < 4294967296; omega) (by omega) (by show (va : Int) % 64 < 64; omega) (by show (va : Int) % 64 < 4294967296; omega)]
              unfold endAt
              omega
            have hEl : endAt y va < 4294967296 := by unfold endAt; omega
            have hq2 : (if 64 * n ≤ endAt y va then none else some (refBits x y, endAt y va, T, D / 64, T / 64, endAt y va / 64)) = q := by
              rw [← HQ.out, HY.out]; simp only; rw [if_neg hy2]
            clear HQ
            have HQ := Lib.hid hq2
            have HY2 := Lib.hid hy2
            clear hq2 hy2
            generalize endAt y va = E at *
            have C := Lib.hid HM.out.size
            have hn512 := HM.out.n512
            by_cases hE2 : 64 * n ≤ E
            · obtain rfl : q = none := by rw [← HQ.out, if_pos hE2]
              have hE3 : 64 * (n : Int) ≤ (E : Int) := by omega
              clear hE2
              obtain ⟨-, -, -, -, -, -, -, -, -, -, -, -, -, c111, -, f111, -⟩ := HB2.out.facts
              go_wp2_with fail
              rw [rounds_succ]
              go_wp2_with fail
              refine (C.out _ ?_).mono ?_
              · have h8 := H8.out
                iterate 4 (try refine keep_in ?_ (by omega) _ _)
                exact HK2.out
              rintro e y3 ⟨rfl, rfl⟩
              clear c111 f111
              obtain ⟨c80, c81, c82, c83, c84, c85, f80, f81, f82, f83, f84, f85, -⟩ := (HB2.out.e1 y).facts
              go_wp2_with fail
              exact bodyPost_ret (v := .tuple #[wayV none, .bool false]) (by simp [results, Try.results15, go_sem, wayV, c80, c81, c82, c83, c84, c85]) rfl ⟨rfl, keep_six (keep_in HK2.out (by have h8 := H8.out; omega) _ _) (by have h8 := H8.out; omega)⟩
            · have hE3 : ¬ (64 * (n : Int) ≤ (E : Int)) := by omega
              have hq3 : some (refBits x y, E, T, D / 64, T / 64, E / 64) = q := by rw [← HQ.out, if_neg hE2]
              obtain ⟨-, -, -, -, -, -, -, -, -, -, -, -, -, c111, -, f111, -⟩ := HB2.out.facts
              go_wp2_with fail
              rw [rounds_succ]
              go_wp2_with fail
              refine (C.out _ ?_).mono ?_
              · have h8 := H8.out
                iterate 4 (try refine keep_in ?_ (by omega) _ _)
                exact HK2.out
              rintro e y3 ⟨rfl, rfl⟩
              go_wp2_with fail
              have hB3 := HB2.out.e1 y
              have HK3 := Lib.hid (keep_in HK2.out (b := r8 + 1) (by have h8 := H8.out; omega) 1 (.int .u32 y))
              generalize World.setCell y2 _ _ = y3 at hB3 HK3
              clear c111 f111
              obtain ⟨c80, c81, c82, c83, c84, c85, f80, f81, f82, f83, f84, f85, c110, c111, -, -, c120, c121, -⟩ := hB3.facts
              have HB3 := Lib.hid hB3
              have ew : bits .and .u32 (y : Int) 16 = ((y &&& 16 : Nat) : Int) := and_u32 y 16 hyl (by decide)
              have hbr : bits .or .u32 ((bothN x y : Nat) : Int) ((y &&& 16 : Nat) : Int) = ((refBits x y : Nat) : Int) := by
                rw [or_u32 _ _ (Nat.lt_of_lt_of_le (bothN_lt x y) (by decide)) (Nat.lt_of_le_of_lt Nat.and_le_right (by decide)), both_ref x y (by have := HX2.out; omega) (by have := HY2.out; omega)]
              have HBT := Lib.hid (fun (z : World) h0 h1 => both_at (w := z) (b := r8 + 1) x y hxl hyl h0 h1)
              generalize bothN x y = B at hbr HBT
              generalize y &&& 16 = y16 at hbr ew
              obtain ⟨RB, hRB⟩ : ∃ RB, RB = refBits x y := ⟨_, rfl⟩
              rw [← hRB] at hbr hq3
              have hRBl : RB < 32 := by rw [hRB]; exact refBits_lt x y
              have HR := Lib.hid hRB
              have HQ3 := Lib.hid hq3
              have w1 : IntKind.u32.wrap ((D : Int) / 64) = ((D / 64 : Nat) : Int) := by rw [IntKind.wrap_u32]; omega
              have w2 : IntKind.u32.wrap ((T : Int) / 64) = ((T / 64 : Nat) : Int) := by rw [IntKind.wrap_u32]; omega
              have w3 : IntKind.u32.wrap ((E : Int) / 64) = ((E / 64 : Nat) : Int) := by rw [IntKind.wrap_u32]; omega
              have w4 : IntKind.i64.wrap ((D / 64 : Nat) : Int) = ((D / 64 : Nat) : Int) := IntWalk.i64_in _ (by omega)
              have w5 : IntKind.i64.wrap ((T / 64 : Nat) : Int) = ((T / 64 : Nat) : Int) := IntWalk.i64_in _ (by omega)
              have w6 : IntKind.i64.wrap ((E / 64 : Nat) : Int) = ((E / 64 : Nat) : Int) := IntWalk.i64_in _ (by omega)
              generalize D / 64 = D64 at w1 w4 HQ3
              generalize T / 64 = T64 at w2 w5 HQ3
              generalize E / 64 = E64 at w3 w6 HQ3
              clear hq3 hRB
              refine wp_region_held_drew (S := fun z => Keep [r8] y3 z ∧ z.cell? ⟨r8 + 1, 0, none⟩ = some (.int .u32 x) ∧ z.cell? ⟨r8 + 1, 1, none⟩ = some (.int .u32 y) ∧ z.cell? ⟨r8 + 1 + 1, 0, none⟩ = some (.int .u32 D) ∧ z.cell? ⟨r8 + 1 + 1, 1, none⟩ = some (.int .u32 T)) (by kernel_rfl) ⟨(Keep.refl [r8] y3).drew, c110, c111, c120, c121⟩ (fun hHeld => ?_)
              skip
              refine wpAnyH_take (i := 0) (oi := { dst := some 72, op := Op.slice 115 (Operand.tmp 11) none none none, type := 44, pos := "walk.go:38", after := #[], guard := none }) (v := ?_) rfl (by kernel_rfl) (by kernel_rfl) (by kernel_rfl) (fun _ _ _ h => h) (Or.inl ⟨by rfl, ?_⟩) (by assumption) ?_
              rotate_left
              focus (intro w hSw; (try dsimp only at hSw); go_simp <;> with_reducible rfl)
              try simp only [Act.put, List.setIfInBounds_toArray, List.set_cons_zero, List.set_cons_succ]
              refine wpAnyH_take (i := 2) (oi := { dst := some 74, op := Op.indexAddr 115 (Operand.tmp 11) (Operand.const (Value.int IntKind.i64 1)), type := 0, pos := "walk.go:38", after := #[], guard := none }) (v := ?_) rfl (by kernel_rfl) (by kernel_rfl) (by kernel_rfl) (fun _ _ _ h => h) (Or.inl ⟨by rfl, ?_⟩) (by assumption) ?_
              rotate_left
              focus (intro w hSw; (try dsimp only at hSw); go_simp <;> with_reducible rfl)
              try simp only [Act.put, List.setIfInBounds_toArray, List.set_cons_zero, List.set_cons_succ]
              refine wpAnyH_take (i := 3) (oi := { dst := some 75, op := Op.load 22 (Operand.tmp 74), type := 22, pos := "walk.go:38", after := #[{ on := 2, ground := Ground.data }], guard := none }) (v := ?_) rfl (by kernel_rfl) (by kernel_rfl) (by kernel_rfl) (fun _ _ _ h => h) (Or.inl ⟨by rfl, ?_⟩) (by assumption) ?_
              rotate_left
              focus (intro w hSw; (try dsimp only at hSw); go_simp <;> with_reducible rfl)
              try simp only [Act.put, List.setIfInBounds_toArray, List.set_cons_zero, List.set_cons_succ]
              refine wpAnyH_take (i := 4) (oi := { dst := some 76, op := Op.binOp BinOp.and 22 (Operand.tmp 75) (Operand.const (Value.int IntKind.u32 16)) 22, type := 22, pos := "walk.go:38", after := #[{ on := 3, ground := Ground.data }], guard := none }) (v := ?_) rfl (by kernel_rfl) (by kernel_rfl) (by kernel_rfl) (fun _ _ _ h => h) (Or.inl ⟨by rfl, ?_⟩) (by assumption) ?_
              rotate_left
              focus (intro w hSw; (try dsimp only at hSw); go_simp <;> with_reducible rfl)
              try simp only [Act.put, List.setIfInBounds_toArray, List.set_cons_zero, List.set_cons_succ]
              refine wpAnyH_take (i := 6) (oi := { dst := some 78, op := Op.move (Operand.tmp 10), type := 22, pos := "walk.go:38", after := #[], guard := none }) (v := ?_) rfl (by kernel_rfl) (by kernel_rfl) (by kernel_rfl) (fun _ _ _ h => h) (Or.inl ⟨by rfl, ?_⟩) (by assumption) ?_
              rotate_left
              focus (intro w hSw; (try dsimp only at hSw); go_simp <;> with_reducible rfl)
              try simp only [Act.put, List.setIfInBounds_toArray, List.set_cons_zero, List.set_cons_succ]
              refine wpAnyH_take (i := 7) (oi := { dst := some 79, op := Op.indexAddr 115 (Operand.tmp 12) (Operand.const (Value.int IntKind.i64 1)), type := 0, pos := "walk.go:38", after := #[], guard := none }) (v := ?_) rfl (by kernel_rfl) (by kernel_rfl) (by kernel_rfl) (fun _ _ _ h => h) (Or.inl ⟨by rfl, ?_⟩) (by assumption) ?_
              rotate_left
              focus (intro w hSw; (try dsimp only at hSw); go_simp <;> with_reducible rfl)
              try simp only [Act.put, List.setIfInBounds_toArray, List.set_cons_zero, List.set_cons_succ]
              refine wpAnyH_take (i := 8) (oi := { dst := some 80, op := Op.load 22 (Operand.tmp 79), type := 22, pos := "walk.go:38", after := #[{ on := 7, ground := Ground.data }], guard := none }) (v := ?_) rfl (by kernel_rfl) (by kernel_rfl) (by kernel_rfl) (fun _ _ _ h => h) (Or.inl ⟨by rfl, ?_⟩) (by assumption) ?_
              rotate_left
              focus (intro w hSw; (try dsimp only at hSw); go_simp <;> with_reducible rfl)
              try simp only [Act.put, List.setIfInBounds_toArray, List.set_cons_zero, List.set_cons_succ]
              refine wpAnyH_take (i := 9) (oi := { dst := some 81, op := Op.indexAddr 115 (Operand.tmp 12) (Operand.const (Value.int IntKind.i64 0)), type := 0, pos := "walk.go:38", after := #[], guard := none }) (v := ?_) rfl (by kernel_rfl) (by kernel_rfl) (by kernel_rfl) (fun _ _ _ h => h) (Or.inl ⟨by rfl, ?_⟩) (by assumption) ?_
              rotate_left
              focus (intro w hSw; (try dsimp only at hSw); go_simp <;> with_reducible rfl)
              try simp only [Act.put, List.setIfInBounds_toArray, List.set_cons_zero, List.set_cons_succ]
              refine wpAnyH_take (i := 10) (oi := { dst := some 82, op := Op.load 22 (Operand.tmp 81), type := 22, pos := "walk.go:38", after := #[{ on := 9, ground := Ground.data }], guard := none }) (v := ?_) rfl (by kernel_rfl) (by kernel_rfl) (by kernel_rfl) (fun _ _ _ h => h) (Or.inl ⟨by rfl, ?_⟩) (by assumption) ?_
              rotate_left
              focus (intro w hSw; (try dsimp only at hSw); go_simp <;> with_reducible rfl)
              try simp only [Act.put, List.setIfInBounds_toArray, List.set_cons_zero, List.set_cons_succ]
              refine wpAnyH_take (i := 11) (oi := { dst := some 83, op := Op.binOp BinOp.quo 22 (Operand.tmp 82) (Operand.const (Value.int IntKind.u32 64)) 22, type := 22, pos := "walk.go:38", after := #[{ on := 10, ground := Ground.data }], guard := none }) (v := ?_) rfl (by kernel_rfl) (by kernel_rfl) (by kernel_rfl) (fun _ _ _ h => h) (Or.inl ⟨by rfl, ?_⟩) (by assumption) ?_
              rotate_left
              focus (intro w hSw; (try dsimp only at hSw); go_simp <;> with_reducible rfl)
              try simp only [Act.put, List.setIfInBounds_toArray, List.set_cons_zero, List.set_cons_succ]
              refine wpAnyH_take (i := 12) (oi := { dst := some 84, op := Op.convert 22 3 (Operand.tmp 83), type := 3, pos := "walk.go:38", after := #[{ on := 11, ground := Ground.data }], guard := none }) (v := ?_) rfl (by kernel_rfl) (by kernel_rfl) (by kernel_rfl) (fun _ _ _ h => h) (Or.inl ⟨by rfl, ?_⟩) (by assumption) ?_
              rotate_left
              focus (intro w hSw; (try dsimp only at hSw); go_simp <;> with_reducible rfl)
              try simp only [Act.put, List.setIfInBounds_toArray, List.set_cons_zero, List.set_cons_succ]
              refine wpAnyH_take (i := 13) (oi := { dst := some 85, op := Op.indexAddr 115 (Operand.tmp 12) (Operand.const (Value.int IntKind.i64 1)), type := 0, pos := "walk.go:38", after := #[], guard := none }) (v := ?_) rfl (by kernel_rfl) (by kernel_rfl) (by kernel_rfl) (fun _ _ _ h => h) (Or.inl ⟨by rfl, ?_⟩) (by assumption) ?_
              rotate_left
              focus (intro w hSw; (try dsimp only at hSw); go_simp <;> with_reducible rfl)
              try simp only [Act.put, List.setIfInBounds_toArray, List.set_cons_zero, List.set_cons_succ]
              refine wpAnyH_take (i := 14) (oi := { dst := some 86, op := Op.load 22 (Operand.tmp 85), type := 22, pos := "walk.go:38", after := #[{ on := 13, ground := Ground.data }], guard := none }) (v := ?_) rfl (by kernel_rfl) (by kernel_rfl) (by kernel_rfl) (fun _ _ _ h => h) (Or.inl ⟨by rfl, ?_⟩) (by assumption) ?_
              rotate_left
              focus (intro w hSw; (try dsimp only at hSw); go_simp <;> with_reducible rfl)
              try simp only [Act.put, List.setIfInBounds_toArray, List.set_cons_zero, List.set_cons_succ]
              refine wpAnyH_take (i := 15) (oi := { dst := some 87, op := Op.binOp BinOp.quo 22 (Operand.tmp 86) (Operand.const (Value.int IntKind.u32 64)) 22, type := 22, pos := "walk.go:38", after := #[{ on := 14, ground := Ground.data }], guard := none }) (v := ?_) rfl (by kernel_rfl) (by kernel_rfl) (by kernel_rfl) (fun _ _ _ h => h) (Or.inl ⟨by rfl, ?_⟩) (by assumption) ?_
              rotate_left
              focus (intro w hSw; (try dsimp only at hSw); go_simp <;> with_reducible rfl)
              try simp only [Act.put, List.setIfInBounds_toArray, List.set_cons_zero, List.set_cons_succ]
              refine wpAnyH_take (i := 16) (oi := { dst := some 88, op := Op.convert 22 3 (Operand.tmp 87), type := 3, pos := "walk.go:38", after := #[{ on := 15, ground := Ground.data }], guard := none }) (v := ?_) rfl (by kernel_rfl) (by kernel_rfl) (by kernel_rfl) (fun _ _ _ h => h) (Or.inl ⟨by rfl, ?_⟩) (by assumption) ?_
              rotate_left
              focus (intro w hSw; (try dsimp only at hSw); go_simp <;> with_reducible rfl)
              try simp only [Act.put, List.setIfInBounds_toArray, List.set_cons_zero, List.set_cons_succ]
              refine wpAnyH_take (i := 17) (oi := { dst := some 89, op := Op.move (Operand.tmp 10), type := 22, pos := "walk.go:38", after := #[], guard := none }) (v := ?_) rfl (by kernel_rfl) (by kernel_rfl) (by kernel_rfl) (fun _ _ _ h => h) (Or.inl ⟨by rfl, ?_⟩) (by assumption) ?_
              rotate_left
              focus (intro w hSw; (try dsimp only at hSw); go_simp <;> with_reducible rfl)
              try simp only [Act.put, List.setIfInBounds_toArray, List.set_cons_zero, List.set_cons_succ]
              refine wpAnyH_take (i := 18) (oi := { dst := some 90, op := Op.binOp BinOp.quo 22 (Operand.tmp 89) (Operand.const (Value.int IntKind.u32 64)) 22, type := 22, pos := "walk.go:38", after := #[{ on := 17, ground := Ground.data }], guard := none }) (v := ?_) rfl (by kernel_rfl) (by kernel_rfl) (by kernel_rfl) (fun _ _ _ h => h) (Or.inl ⟨by rfl, ?_⟩) (by assumption) ?_
              rotate_left
              focus (intro w hSw; (try dsimp only at hSw); go_simp <;> with_reducible rfl)
              try simp only [Act.put, List.setIfInBounds_toArray, List.set_cons_zero, List.set_cons_succ]
              refine wpAnyH_take (i := 19) (oi := { dst := some 91, op := Op.convert 22 3 (Operand.tmp 90), type := 3, pos := "walk.go:38", after := #[{ on := 18, ground := Ground.data }], guard := none }) (v := ?_) rfl (by kernel_rfl) (by kernel_rfl) (by kernel_rfl) (fun _ _ _ h => h) (Or.inl ⟨by rfl, ?_⟩) (by assumption) ?_
              rotate_left
              focus (intro w hSw; (try dsimp only at hSw); go_simp <;> with_reducible rfl)
              try simp only [Act.put, List.setIfInBounds_toArray, List.set_cons_zero, List.set_cons_succ]
              refine wpAnyH_ready (rs := [1]) (by kernel_rfl) (by simp) ?_
              refine AllReadyH.cons (o := { dst := some 73, op := Op.call { callee := Callee.value (Operand.func 51), args := #[Operand.tmp 72], argTypes := #[44] }, type := 22, pos := "walk.go:38", after := #[{ on := 0, ground := Ground.data }], guard := none }) rfl (fun K hK => ?_) AllReadyH.nil
              go_simp
              refine (HBT.out _ hHeld.2.1 hHeld.2.2.1).mono ?_
              rintro e z ⟨rfl, rfl⟩
              go_wp2_with fail
              refine shut_grow (fun z => Keep [r8] y3 z ∧ z.cell? ⟨r8 + 1, 0, none⟩ = some (.int .u32 x) ∧ z.cell? ⟨r8 + 1, 1, none⟩ = some (.int .u32 y) ∧ z.cell? ⟨r8 + 1 + 1, 0, none⟩ = some (.int .u32 D) ∧ z.cell? ⟨r8 + 1 + 1, 1, none⟩ = some (.int .u32 T)) hK (fun _ h => h) hHeld (fun hHeld => ?_)
              clear hK K
              refine wpAnyH_take (i := 5) (oi := { dst := some 77, op := Op.binOp BinOp.or 22 (Operand.tmp 73) (Operand.tmp 76) 22, type := 22, pos := "walk.go:38", after := #[{ on := 1, ground := Ground.data }, { on := 4, ground := Ground.data }], guard := none }) (v := ?_) rfl (by kernel_rfl) (by kernel_rfl) (by kernel_rfl) (fun _ _ _ h => h) (Or.inl ⟨by rfl, ?_⟩) (by assumption) ?_
              rotate_left
              focus (intro w hSw; (try dsimp only at hSw); go_simp <;> with_reducible rfl)
              try simp only [Act.put, List.setIfInBounds_toArray, List.set_cons_zero, List.set_cons_succ]
              refine wpAnyH_take (i := 20) (oi := { dst := some 92, op := Op.build 36 #[(0, Operand.tmp 77), (1, Operand.tmp 78), (2, Operand.tmp 80), (3, Operand.tmp 84), (4, Operand.tmp 88), (5, Operand.tmp 91)], type := 36, pos := "walk.go:38", after := #[{ on := 5, ground := Ground.data }, { on := 6, ground := Ground.data }, { on := 8, ground := Ground.data }, { on := 12, ground := Ground.data }, { on := 16, ground := Ground.data }, { on := 19, ground := Ground.data }], guard := none }) (v := ?_) rfl (by kernel_rfl) (by kernel_rfl) (by kernel_rfl) (fun _ _ _ h => h) (Or.inl ⟨by rfl, ?_⟩) (by assumption) ?_
              rotate_left
              focus (intro w hSw; (try dsimp only at hSw); go_simp <;> with_reducible rfl)
              try simp only [Act.put, List.setIfInBounds_toArray, List.set_cons_zero, List.set_cons_succ]
              refine wpAnyH_ready (rs := [21]) (by kernel_rfl) (by simp) ?_
              refine AllReadyH.cons (o := { dst := none, op := Op.store 36 (Operand.tmp 8) (Operand.tmp 92), type := 0, pos := "walk.go:38", after := #[{ on := 20, ground := Ground.data }, { on := 1, ground := Ground.chain }, { on := 0, ground := Ground.phase }, { on := 1, ground := Ground.phase }, { on := 2, ground := Ground.phase }, { on := 3, ground := Ground.phase }, { on := 4, ground := Ground.phase }, { on := 5, ground := Ground.phase }, { on := 6, ground := Ground.phase }, { on := 7, ground := Ground.phase }, { on := 8, ground := Ground.phase }, { on := 9, ground := Ground.phase }, { on := 10, ground := Ground.phase }, { on := 11, ground := Ground.phase }, { on := 12, ground := Ground.phase }, { on := 13, ground := Ground.phase }, { on := 14, ground := Ground.phase }, { on := 15, ground := Ground.phase }, { on := 16, ground := Ground.phase }, { on := 17, ground := Ground.phase }, { on := 18, ground := Ground.phase }, { on := 19, ground := Ground.phase }, { on := 20, ground := Ground.phase }], guard := none }) rfl (fun K hK => ?_) AllReadyH.nil
              go_simp
              have h6 : ∀ u0 u1 u2 u3 u4 u5 : Value, Keep [r8] y3 ((((((y3.setCell ⟨r8, 0, none⟩ u0).setCell ⟨r8, 1, none⟩ u1).setCell ⟨r8, 2, none⟩ u2).setCell ⟨r8, 3, none⟩ u3).setCell ⟨r8, 4, none⟩ u4).setCell ⟨r8, 5, none⟩ u5) := fun u0 u1 u2 u3 u4 u5 =>
                ((((((Keep.refl [r8] y3).setCell (.inl (by simp)) _).setCell (.inl (by simp)) _).setCell (.inl (by simp)) _).setCell (.inl (by simp)) _).setCell (.inl (by simp)) _).setCell (.inl (by simp)) _
              have H6 := Lib.hid h6
              refine shut_grow (fun z => z = _) hK (fun _ h => by rw [h]; exact ⟨(H6.out _ _ _ _ _ _).drew, ((H6.out _ _ _ _ _ _).drew).cell c110 (by simp <;> omega), ((H6.out _ _ _ _ _ _).drew).cell c111 (by simp <;> omega), ((H6.out _ _ _ _ _ _).drew).cell c120 (by simp <;> omega), ((H6.out _ _ _ _ _ _).drew).cell c121 (by simp <;> omega)⟩) rfl (fun hHeld => ?_)
              clear hK K h6
              refine wpAnyH_take (i := 22) (oi := { dst := some 9, op := Op.assign (Operand.const (Value.bool true)), type := 4, pos := "walk.go:38", after := #[{ on := 21, ground := Ground.chain }, { on := 0, ground := Ground.phase }, { on := 1, ground := Ground.phase }, { on := 2, ground := Ground.phase }, { on := 3, ground := Ground.phase }, { on := 4, ground := Ground.phase }, { on := 5, ground := Ground.phase }, { on := 6, ground := Ground.phase }, { on := 7, ground := Ground.phase }, { on := 8, ground := Ground.phase }, { on := 9, ground := Ground.phase }, { on := 10, ground := Ground.phase }, { on := 11, ground := Ground.phase }, { on := 12, ground := Ground.phase }, { on := 13, ground := Ground.phase }, { on := 14, ground := Ground.phase }, { on := 15, ground := Ground.phase }, { on := 16, ground := Ground.phase }, { on := 17, ground := Ground.phase }, { on := 18, ground := Ground.phase }, { on := 19, ground := Ground.phase }, { on := 20, ground := Ground.phase }, { on := 21, ground := Ground.phase }], guard := none }) (v := ?_) rfl (by kernel_rfl) (by kernel_rfl) (by kernel_rfl) (fun _ _ _ h => h) (Or.inl ⟨by rfl, ?_⟩) (by assumption) ?_
              rotate_left
              focus (intro w hSw; (try dsimp only at hSw); go_simp <;> with_reducible rfl)
              try simp only [Act.put, List.setIfInBounds_toArray, List.set_cons_zero, List.set_cons_succ]
              refine wpAnyH_done (by kernel_rfl) ?_ _
              clear hHeld
              go_wp2_with fail
              rw [← HQ3.out]
              exact bodyPost_ret (v := .tuple #[wayV (some (RB, E, T, D64, T64, E64)), .bool true]) (by simp [results, Try.results15, go_sem, wayV, c80, c81, c82, c83, c84, c85]) rfl ⟨rfl, (keep_six HK3.out (by have h8 := H8.out; omega)).drew⟩
end Go.Proofs.Ytpinoejckagjbaa
