/- Contracts of the functions that the law reaches, walked, and the plain laws on them (several texts in one). -/
import Derived.BigQuiet
import Derived.Outline
import Derived.Test.YtpinoejckagjbaaM33
import Derived.Test.YtpinoejckagjbaaM04

/- The document's spaces: a page put into the one in use, if there is room. -/
namespace Go.Proofs.Ytpinoejckagjbaa
open Go.RowKit Go.Mum
set_option linter.unusedVariables false
set_option linter.unusedSimpArgs false
set_option maxRecDepth 100000

theorem RSI.setm {x : World} {B wb wo : Nat} {t : TypeId} {nc : Nat} {f : Nat → Value} {most : Int} {ps : List Pg} {ts : List Nat} {pv tv : Value} (h : RSI x B wb wo t nc f most ps ts pv tv) (m : Int) : RSI (x.setCell ⟨wb, wo + 3, none⟩ (.int .i64 m)) B wb wo t nc (fset f (wo + 3) (.int .i64 m)) m ps ts pv tv := by
  have hk : Keep [wb] x (x.setCell ⟨wb, wo + 3, none⟩ (.int .i64 m)) := keepSet (Keep.refl _ _) (by simp) _ _
  refine ⟨ArrAt.set h.arr _ _, h.hn, Nat.le_trans h.hB hk.size, by rw [fset_ne (by omega), h.v0], by rw [fset_ne (by omega), h.v1], by rw [fset_ne (by omega), h.v2], fset_same, own_keep h.prow hk (fun g hg => ?_), own_keep h.trow hk (fun g hg => ?_), h.nep, h.net⟩
  · simp only [List.mem_singleton]; rintro rfl; exact h.nep hg
  · simp only [List.mem_singleton]; rintro rfl; exact h.net hg

/-- How the document's lists go through a put into one space. -/
def OneM (R : RSt) (tot most a va : Nat) (frame : Int) (bb : Nat) (b : Bool) (P' : List Pg) (S' : List Nat) : Prop :=
  ((32768 ≤ va ∨ (16384 ≤ va ∧ R.ur a = true) ∨ frame < 0 ∨ 60 ≤ frame) ∧ b = false ∧ P' = R.P a ∧ S' = R.S a) ∨
  ((va < 32768 ∧ ¬ (16384 ≤ va ∧ R.ur a = true) ∧ 0 ≤ frame ∧ frame < 60) ∧ va / 1024 ∉ R.S a ∧ most ≤ tot ∧ b = false ∧ P' = R.P a ∧ S' = R.S a) ∨
  ((va < 32768 ∧ ¬ (16384 ≤ va ∧ R.ur a = true) ∧ 0 ≤ frame ∧ frame < 60) ∧ (va / 1024 ∈ R.S a ∨ tot < most) ∧ b = true ∧ P' = insP (va - va % 64, frame.toNat, bb % 16 / 2 * 2 + 1) ((R.P a).filter (fun q => decide (q.1 ≠ va - va % 64))) ∧ S' = if va / 1024 ∈ R.S a then R.S a else R.S a ++ [va / 1024])

/-- Which blocks a put may turn. -/
def OneOwn (R : RSt) (a ga : Nat) (k : Nat) : Prop := k = ga ∨ (R.tv a).ownBlock = some k

theorem TvSub.put {n : Nat} {R : RSt} {age : List Nat} {a : Nat} {P : List Pg} {S : List Nat} {pv tv : Value} {mf : Int} (h : ∀ g, tv.ownBlock = some g → (R.tv a).ownBlock = some g ∨ n ≤ g) (ha : a ∈ age) : TvSub n R age (R.put a P S pv tv mf) age := fun j hj g hg => by
  by_cases hja : j = a
  · subst hja
    have h1 : (updN R.tv j tv j).ownBlock = some g := hg
    rw [updN_same] at h1
    exact (h g h1).imp (fun q => ⟨j, hj, q⟩) id
  · have h1 : (updN R.tv a tv j).ownBlock = some g := hg
    rw [updN_ne hja] at h1
    exact .inl ⟨j, hj, h1⟩

def OnePost (B rb most : Nat) (R : RSt) (age : List Nat) (use : Bool) (ga ca : Nat) (hv : Value) (c a va : Nat) (frame : Int) (bb : Nat) (x : World) (e : Ending) (y : World) : Prop :=
  ∃ b P' S' pv' tv' mf', e = .returned (.bool b) ∧ OneM R (totS R age) most a va frame bb b P' S' ∧ RcAt y B rb most (R.put a P' S' pv' tv' mf') age use ga ca hv (c + 1) ∧ KeepTo (RcW R age rb ga) x y ∧ TvSub x.heap.size R age (R.put a P' S' pv' tv' mf') age

theorem put_len {ps : List Pg} {p : Pg} {v : Nat} : (insP p (ps.filter (fun q => decide (q.1 ≠ v)))).length ≤ ps.length + 1 := by
  rw [insP_length]
  have := List.length_filter_le (fun q : Pg => decide (q.1 ≠ v)) ps
  omega

theorem put_self (R : RSt) (a : Nat) (mf : Int) (hmf : R.mf a = mf) : R.put a (R.P a) (R.S a) (R.pv a) (R.tv a) mf = R := by
  have h : ∀ {α : Type} (f : Nat → α), updN f a (f a) = f := fun f => by
    funext k
    by_cases h : k = a
    · rw [h, updN_same]
    · rw [updN_ne h]
  unfold RSt.put
  rw [h, h, h, h, ← hmf, h]

set_option maxHeartbeats 4000000 in
theorem rfone_at {x : World} {B rb most : Nat} {R : RSt} {age : List Nat} {use : Bool} {ga ca : Nat} {hv : Value} {c : Nat} (h : RcAt x B rb most R age use ga ca hv c) (hc : c ≤ 800) (hm : most ≤ 9) (htot : totS R age ≤ most) {i : Nat} (hi : i + 1 = age.length) (va : Nat) (frame : Int) (bb : Nat) (hv1 : va < 4294967296) (hf1 : -9223372036854775808 ≤ frame) (hf2 : frame ≤ 9223372036854775807) (hb : bb < 4294967296) :
    Calls Try.prog 91 #[.pointer (some ⟨rb, 0, none⟩), .int .u32 va, .int .i64 frame, .int .u32 bb] x (OnePost B rb most R age use ga ca hv c (age[i]'(by omega)) va frame bb x) := by
  have HR := Lib.hid h
  obtain ⟨c0, c1, c2, c3, c4⟩ := h.cells
  have hal := h.al
  have hil : i < age.length := by omega
  obtain ⟨a, ha⟩ : ∃ a, a = age[i] := ⟨_, rfl⟩
  rw [← ha]
  have HA := Lib.hid ha
  have hmem : a ∈ age := by rw [ha]; exact List.getElem_mem hil
  obtain ⟨f, hS, hf, hca, hmx⟩ := h.one hil
  rw [← ha] at hS
  have HS := Lib.hid (And.intro hS (And.intro hf (And.intro hca hmx)))
  have hup : x.cell? ⟨ga, i * 8 + 3, none⟩ = some (.bool (R.ur a)) := by rw [h.cell hil (by omega), ← ha]; rfl
  obtain ⟨d0, d1, d2, d3⟩ := hS.cells
  have d3f := ArrAt.frozen hS.arr (i * 8 + 4 + 3)
  obtain ⟨n, hn⟩ : ∃ n, n = age.length := ⟨_, rfl⟩
  have w1 : IntKind.i64.wrap (i : Int) = (i : Int) := IntWalk.i64_in _ (by omega)
  have w1' : (n : Int) - 1 = (i : Int) := by omega
  have hi0 : (0 : Int) ≤ (i : Int) := by omega
  have hi1 : (i : Int) < (n : Int) := by omega
  rw [← hn] at c0
  have HB : Hid (B ≤ ga) := Lib.hid (own_block h.all (g := ga) rfl).1
  have HSL := Lib.hid (h.sl a hmem)
  have HPL := Lib.hid (h.pl a hmem)
  obtain ⟨ta, tc, htv⟩ := own_form (h.trow a hmem)
  obtain ⟨un, hun⟩ : ∃ un, un = R.ur a := ⟨_, rfl⟩
  have HUN := Lib.hid hun
  rw [← hun] at hup
  by_cases hbad : 16384 ≤ va ∧ un = true
  · have HF : Hid (∀ d, OnePost B rb most R age use ga ca hv c a va frame bb x (.returned (.bool false)) (x.drewN d)) := Lib.hid (fun d => ⟨false, R.P a, R.S a, R.pv a, R.tv a, R.mf a, rfl, .inl ⟨.inr (.inl ⟨hbad.1, by rw [← HUN.out]; exact hbad.2⟩), rfl, rfl, rfl⟩, by
      rw [put_self R a _ rfl]; exact (HR.out.keep0 ((Keep.refl [] x).drewN d)).later (by omega), Keep.upTo ((Keep.refl [] x).drewN d) (by simp), by rw [put_self R a _ rfl]; exact TvSub.refl _ _ _⟩)
    obtain ⟨hb1, rfl⟩ := hbad
    have hv2 : (16384 : Int) ≤ (va : Int) := by omega
    clear h ha hS hf hn d0 d1 d2 d3 hb1 hal hun hca hmx hi hmem d3f htv
    go_enter Try.func91, Try.ntmps91
    go_wp2_with fail
    go_quiet (fail)
    go_wp2_with fail
    go_ret
    exact HF.out _
  · have hgd : ¬ ((16384 : Int) ≤ (va : Int)) ∨ ((16384 : Int) ≤ (va : Int) ∧ un = false) := by
      by_cases h1 : 16384 ≤ va
      · exact .inr ⟨by omega, by cases hq : un with
          | false => rfl
          | true => exact absurd ⟨h1, hq⟩ hbad⟩
      · exact .inl (by omega)
    have HBD := Lib.hid hbad
    rw [htv] at d2
    have CL : Hid (∀ u, Keep [] x u → Calls Try.prog 74 #[.pointer (some ⟨rb, 0, none⟩)] u fun e y => e = .returned (.int .i64 ((most : Int) - (totS R age : Nat))) ∧ u = y) := Lib.hid (fun u hu => rfleft_at (HR.out.keep0 hu) (by omega) (by omega))
    obtain ⟨m, hmd⟩ : ∃ m : Nat, m = (R.S a).length + (most - totS R age) := ⟨_, rfl⟩
    have HM := Lib.hid hmd
    obtain ⟨tl, htl⟩ : ∃ tl, tl = (R.S a).length := ⟨_, rfl⟩
    obtain ⟨tt, htt⟩ : ∃ tt : Int, tt = (most : Int) - (totS R age : Nat) := ⟨_, rfl⟩
    rw [← htt] at CL
    rw [← htl] at d2
    have HTL := Lib.hid htl
    have hsl := HSL.out
    have wm : IntKind.i64.wrap (m : Int) = (m : Int) := IntWalk.i64_in _ (by omega)
    have wm' : (tl : Int) + tt = (m : Int) := by omega
    have d2' : x.cell? ⟨ga, i * 8 + 4 + 2, none⟩ = some (.slice ta tl tc) := d2
    clear hbad h ha hS hf hn htl htt hmd hal hun hca hmx hi
    rcases hgd with hv2 | ⟨hv2, rfl⟩
    all_goals
      go_enter Try.func91, Try.ntmps91
      go_wp2_with fail
      go_quiet (fail)
      go_wp2_with fail
      generalize hx1 : World.drewN x _ = x1
      have HX1 : Hid (Keep [] x x1) := Lib.hid (by subst hx1; exact (Keep.refl [] x).drewN _)
      clear hx1
      have hR1 := HS.out.1.keep0 HX1.out
      obtain ⟨e0, e1, e2, e3⟩ := hR1.cells
      have e3f := ArrAt.frozen hR1.arr (i * 8 + 4 + 3)
      rw [htv, ← HTL.out] at e2
      have e2' : x1.cell? ⟨ga, i * 8 + 4 + 2, none⟩ = some (.slice ta tl tc) := e2
      clear hR1 c0 c1 c2 c3 c4 d0 d1 d2 d3 d3f d2' hup
      refine wp_region_held_drew (S := fun u => u.cell? ⟨ga, i * 8 + 4 + 2, none⟩ = some (.slice ta tl tc)) (by kernel_rfl) e2 (fun hHeld => ?_)
      skip
      generalize hx2 : World.drew x1 = x2 at hHeld ⊢
      have HX2 : Hid (Keep [] x x2) := Lib.hid (by subst hx2; exact HX1.out.trans (Keep.refl [] x1).drew)
      clear hx2 e0 e1 e2 e3 e2' e3f
      have hR2 := HS.out.1.keep0 HX2.out
      have e3 := hR2.cells.2.2.2
      have e3f := ArrAt.frozen hR2.arr (i * 8 + 4 + 3)
      have HR2 := Lib.hid hR2
      clear hR2
      refine wpAnyH_take (i := 0) (oi := { dst := some 36, op := Op.move (Operand.tmp 9), type := 146, pos := "ref.go:88", after := #[], guard := none }) (v := ?_) rfl (by kernel_rfl) (by kernel_rfl) (by kernel_rfl) (fun _ _ _ h => h) (Or.inl ⟨by rfl, ?_⟩) (by assumption) ?_
      rotate_left
      focus (intro w hSw; (try dsimp only at hSw); go_simp <;> with_reducible rfl)
      try simp only [Act.put, List.setIfInBounds_toArray, List.set_cons_zero, List.set_cons_succ]
      refine wpAnyH_take (i := 1) (oi := { dst := some 37, op := Op.move (Operand.tmp 9), type := 146, pos := "ref.go:88", after := #[], guard := none }) (v := ?_) rfl (by kernel_rfl) (by kernel_rfl) (by kernel_rfl) (fun _ _ _ h => h) (Or.inl ⟨by rfl, ?_⟩) (by assumption) ?_
      rotate_left
      focus (intro w hSw; (try dsimp only at hSw); go_simp <;> with_reducible rfl)
      try simp only [Act.put, List.setIfInBounds_toArray, List.set_cons_zero, List.set_cons_succ]
      refine wpAnyH_take (i := 2) (oi := { dst := some 38, op := Op.nilCheck (Operand.tmp 37), type := 0, pos := "ref.go:88", after := #[{ on := 1, ground := Ground.data }], guard := none }) (v := ?_) rfl (by kernel_rfl) (by kernel_rfl) (by kernel_rfl) (fun _ _ _ h => h) (Or.inl ⟨by rfl, ?_⟩) (by assumption) ?_
      rotate_left
      focus (intro w hSw; (try dsimp only at hSw); go_simp <;> with_reducible rfl)
      try simp only [Act.put, List.setIfInBounds_toArray, List.set_cons_zero, List.set_cons_succ]
      refine wpAnyH_take (i := 3) (oi := { dst := some 39, op := Op.fieldAddr 145 (Operand.tmp 38) 3, type := 0, pos := "ref.go:88", after := #[{ on := 2, ground := Ground.data }], guard := none }) (v := ?_) rfl (by kernel_rfl) (by kernel_rfl) (by kernel_rfl) (fun _ _ _ h => h) (Or.inl ⟨by rfl, ?_⟩) (by assumption) ?_
      rotate_left
      focus (intro w hSw; (try dsimp only at hSw); go_simp <;> with_reducible rfl)
      try simp only [Act.put, List.setIfInBounds_toArray, List.set_cons_zero, List.set_cons_succ]
      refine wpAnyH_take (i := 4) (oi := { dst := some 40, op := Op.fieldAddr 46 (Operand.tmp 39) 2, type := 0, pos := "ref.go:88", after := #[{ on := 3, ground := Ground.data }], guard := none }) (v := ?_) rfl (by kernel_rfl) (by kernel_rfl) (by kernel_rfl) (fun _ _ _ h => h) (Or.inl ⟨by rfl, ?_⟩) (by assumption) ?_
      rotate_left
      focus (intro w hSw; (try dsimp only at hSw); go_simp <;> with_reducible rfl)
      try simp only [Act.put, List.setIfInBounds_toArray, List.set_cons_zero, List.set_cons_succ]
      refine wpAnyH_take (i := 5) (oi := { dst := some 41, op := Op.load 44 (Operand.tmp 40), type := 44, pos := "ref.go:88", after := #[{ on := 4, ground := Ground.data }], guard := none }) (v := ?_) rfl (by kernel_rfl) (by kernel_rfl) (by kernel_rfl) (fun _ _ _ h => h) (Or.inl ⟨by rfl, ?_⟩) (by assumption) ?_
      rotate_left
      focus (intro w hSw; (try dsimp only at hSw); go_simp <;> with_reducible rfl)
      try simp only [Act.put, List.setIfInBounds_toArray, List.set_cons_zero, List.set_cons_succ]
      refine wpAnyH_take (i := 6) (oi := { dst := some 42, op := Op.call { callee := Callee.builtin Builtin.len, args := #[Operand.tmp 41], argTypes := #[44] }, type := 3, pos := "ref.go:88", after := #[{ on := 5, ground := Ground.data }], guard := none }) (v := ?_) rfl (by kernel_rfl) (by kernel_rfl) (by kernel_rfl) (fun _ _ _ h => h) (Or.inl ⟨by rfl, ?_⟩) (by assumption) ?_
      rotate_left
      focus (intro w hSw; (try dsimp only at hSw); go_simp <;> with_reducible rfl)
      try simp only [Act.put, List.setIfInBounds_toArray, List.set_cons_zero, List.set_cons_succ]
      refine wpAnyH_take (i := 7) (oi := { dst := some 43, op := Op.move (Operand.tmp 0), type := 76, pos := "ref.go:88", after := #[], guard := none }) (v := ?_) rfl (by kernel_rfl) (by kernel_rfl) (by kernel_rfl) (fun _ _ _ h => h) (Or.inl ⟨by rfl, ?_⟩) (by assumption) ?_
      rotate_left
      focus (intro w hSw; (try dsimp only at hSw); go_simp <;> with_reducible rfl)
      try simp only [Act.put, List.setIfInBounds_toArray, List.set_cons_zero, List.set_cons_succ]
      refine wpAnyH_ready (rs := [8]) (by kernel_rfl) (by simp) ?_
      refine AllReadyH.cons (o := { dst := some 44, op := Op.call { callee := Callee.value (Operand.func 74), args := #[Operand.tmp 43], argTypes := #[76] }, type := 3, pos := "ref.go:88", after := #[{ on := 7, ground := Ground.data }], guard := none }) rfl (fun K hK => ?_) AllReadyH.nil
      go_simp
      refine (CL.out _ HX2.out).mono ?_
      rintro e u1 ⟨rfl, rfl⟩
      go_wp2_with fail
      refine shut_grow (fun u => u.cell? ⟨ga, i * 8 + 4 + 2, none⟩ = some (.slice ta tl tc)) hK (fun _ h => h) hHeld (fun hHeld => ?_)
      clear hK K
      refine wpAnyH_take (i := 9) (oi := { dst := some 45, op := Op.binOp BinOp.add 3 (Operand.tmp 42) (Operand.tmp 44) 3, type := 3, pos := "ref.go:88", after := #[{ on := 6, ground := Ground.data }, { on := 8, ground := Ground.data }], guard := none }) (v := ?_) rfl (by kernel_rfl) (by kernel_rfl) (by kernel_rfl) (fun _ _ _ h => h) (Or.inl ⟨by rfl, ?_⟩) (by assumption) ?_
      rotate_left
      focus (intro w hSw; (try dsimp only at hSw); go_simp <;> with_reducible rfl)
      try simp only [Act.put, List.setIfInBounds_toArray, List.set_cons_zero, List.set_cons_succ]
      refine wpAnyH_take (i := 10) (oi := { dst := some 46, op := Op.nilCheck (Operand.tmp 36), type := 0, pos := "ref.go:88", after := #[{ on := 0, ground := Ground.data }, { on := 0, ground := Ground.phase }, { on := 1, ground := Ground.phase }, { on := 2, ground := Ground.phase }, { on := 3, ground := Ground.phase }, { on := 4, ground := Ground.phase }, { on := 5, ground := Ground.phase }, { on := 6, ground := Ground.phase }, { on := 7, ground := Ground.phase }, { on := 8, ground := Ground.phase }, { on := 9, ground := Ground.phase }], guard := none }) (v := ?_) rfl (by kernel_rfl) (by kernel_rfl) (by kernel_rfl) (fun _ _ _ h => h) (Or.inl ⟨by rfl, ?_⟩) (by assumption) ?_
      rotate_left
      focus (intro w hSw; (try dsimp only at hSw); go_simp <;> with_reducible rfl)
      try simp only [Act.put, List.setIfInBounds_toArray, List.set_cons_zero, List.set_cons_succ]
      refine wpAnyH_take (i := 11) (oi := { dst := some 47, op := Op.fieldAddr 145 (Operand.tmp 46) 3, type := 0, pos := "ref.go:88", after := #[{ on := 10, ground := Ground.data }, { on := 0, ground := Ground.phase }, { on := 1, ground := Ground.phase }, { on := 2, ground := Ground.phase }, { on := 3, ground := Ground.phase }, { on := 4, ground := Ground.phase }, { on := 5, ground := Ground.phase }, { on := 6, ground := Ground.phase }, { on := 7, ground := Ground.phase }, { on := 8, ground := Ground.phase }, { on := 9, ground := Ground.phase }], guard := none }) (v := ?_) rfl (by kernel_rfl) (by kernel_rfl) (by kernel_rfl) (fun _ _ _ h => h) (Or.inl ⟨by rfl, ?_⟩) (by assumption) ?_
      rotate_left
      focus (intro w hSw; (try dsimp only at hSw); go_simp <;> with_reducible rfl)
      try simp only [Act.put, List.setIfInBounds_toArray, List.set_cons_zero, List.set_cons_succ]
      refine wpAnyH_take (i := 12) (oi := { dst := some 48, op := Op.fieldAddr 46 (Operand.tmp 47) 3, type := 0, pos := "ref.go:88", after := #[{ on := 11, ground := Ground.data }, { on := 0, ground := Ground.phase }, { on := 1, ground := Ground.phase }, { on := 2, ground := Ground.phase }, { on := 3, ground := Ground.phase }, { on := 4, ground := Ground.phase }, { on := 5, ground := Ground.phase }, { on := 6, ground := Ground.phase }, { on := 7, ground := Ground.phase }, { on := 8, ground := Ground.phase }, { on := 9, ground := Ground.phase }], guard := none }) (v := ?_) rfl (by kernel_rfl) (by kernel_rfl) (by kernel_rfl) (fun _ _ _ h => h) (Or.inl ⟨by rfl, ?_⟩) (by assumption) ?_
      rotate_left
      focus (intro w hSw; (try dsimp only at hSw); go_simp <;> with_reducible rfl)
      try simp only [Act.put, List.setIfInBounds_toArray, List.set_cons_zero, List.set_cons_succ]
      refine wpAnyH_ready (rs := [13]) (by kernel_rfl) (by simp) ?_
      refine AllReadyH.cons (o := { dst := none, op := Op.store 3 (Operand.tmp 48) (Operand.tmp 45), type := 0, pos := "ref.go:88", after := #[{ on := 12, ground := Ground.data }, { on := 9, ground := Ground.data }, { on := 8, ground := Ground.chain }, { on := 0, ground := Ground.phase }, { on := 1, ground := Ground.phase }, { on := 2, ground := Ground.phase }, { on := 3, ground := Ground.phase }, { on := 4, ground := Ground.phase }, { on := 5, ground := Ground.phase }, { on := 6, ground := Ground.phase }, { on := 7, ground := Ground.phase }, { on := 8, ground := Ground.phase }, { on := 9, ground := Ground.phase }], guard := none }) rfl (fun K hK => ?_) AllReadyH.nil
      go_simp
      have hR3 := HR2.out.setm (m : Int)
      have hks : Keep [ga] x2 (x2.setCell ⟨ga, i * 8 + 4 + 3, none⟩ (.int .i64 m)) := keepSet (Keep.refl _ _) (by simp) _ _
      generalize World.setCell x2 _ _ = x3 at hR3 hks ⊢
      have HR3 : Hid (RSI x3 B ga (i * 8 + 4) 145 (ca * 8) (fset f (i * 8 + 4 + 3) (.int .i64 m)) (m : Int) (R.P a) (R.S a) (R.pv a) (R.tv a) ∧ Keep [ga] x x3) := Lib.hid ⟨hR3, (HX2.out.weaken (by simp)).trans hks⟩
      have g2 : x3.cell? ⟨ga, i * 8 + 4 + 2, none⟩ = some (.slice ta tl tc) := by rw [hR3.cells.2.2.1, htv, ← HTL.out]
      clear hR3 hks
      refine shut_grow (fun u => u = x3) hK (fun _ h => by rw [h]; exact g2) rfl (fun hHeld => ?_)
      clear hK K
      skip
      refine wpAnyH_done (by kernel_rfl) ?_ _
      clear hHeld g2 e3 e3f
      go_wp2_with fail
      have hw4 : x3.heap.size = x3.heap.size := rfl
      refine (riput_at HR3.out.1 (by have := HPL.out; omega) (by have := HSL.out; omega) (by have := HM.out; omega) va frame bb hv1 hf1 hf2 hb).mono ?_
      rintro e y ⟨hkt, hP⟩
      have hxs := HR3.out.2.size
      have hKT : KeepTo (fun k => k = ga ∨ (R.tv age[i]).ownBlock = some k) x y := by
        rw [← HA.out]; exact (Keep.upTo HR3.out.2 (by simp)).trans hkt
      have hKU : KeepTo (RcW R age rb ga) x y := hKT.mono (fun k hk => by
        rcases hk with rfl | hk
        · exact .inr (.inl rfl)
        · exact .inr (.inr ⟨_, List.getElem_mem hil, hk⟩))
      have hama : a ∈ age := by rw [HA.out]; exact List.getElem_mem hil
      have HF : Hid (OnePost B rb most R age use ga ca hv c a va frame bb x e y) := Lib.hid (by
        have hmm : ((most : Nat) ≤ totS R age ↔ m ≤ (R.S a).length) := by have := HM.out; omega
        have hf3 : ∀ {v : Value} (j : Nat), j ≠ i * 8 + 5 → j ≠ i * 8 + 6 → j ≠ i * 8 + 7 → fset f (i * 8 + 4 + 3) v j = f j := fun j _ _ h7 => fset_ne (by omega)
        have hback : ∀ {P' : List Pg} {S' : List Nat} {pv' tv' : Value} {f' : Nat → Value}, RSI y B ga (i * 8 + 4) 145 (ca * 8) f' (m : Int) P' S' pv' tv' → (∀ j, j ≠ i * 8 + 5 → j ≠ i * 8 + 6 → j ≠ i * 8 + 7 → f' j = f j) → (∀ g, pv'.ownBlock = some g → (R.pv age[i]).ownBlock = some g ∨ x.heap.size ≤ g) → (∀ g, tv'.ownBlock = some g → (R.tv age[i]).ownBlock = some g ∨ x.heap.size ≤ g) → P'.length ≤ c + 1 → S'.length ≤ c + 1 → RcAt y B rb most (R.put a P' S' pv' tv' m) age use ga ca hv (c + 1) := fun hS hf' fp ft hp hs => by
          have := HR.out.back hil HS.out.2.1 HS.out.2.2.1 HS.out.2.2.2 hS hf' hKT fp ft (Nat.le_succ c) hp hs
          rwa [← HA.out] at this
        have hsame : ∀ {b : Bool}, RSI y B ga (i * 8 + 4) 145 (ca * 8) (fset f (i * 8 + 4 + 3) (.int .i64 m)) (m : Int) (R.P a) (R.S a) (R.pv a) (R.tv a) → RcAt y B rb most (R.put a (R.P a) (R.S a) (R.pv a) (R.tv a) m) age use ga ca hv (c + 1) := fun hS => hback hS hf3 (fun g hg => .inl (by rw [← HA.out]; exact hg)) (fun g hg => .inl (by rw [← HA.out]; exact hg)) (by have := HPL.out; omega) (by have := HSL.out; omega)
        have hub : ¬ (16384 ≤ va ∧ R.ur a = true) := by rw [← HUN.out]; exact HBD.out
        have hsn : (if va / 1024 ∈ R.S a then R.S a else R.S a ++ [va / 1024]).length ≤ c + 1 := by
          have h0 := HSL.out
          split
          · omega
          · rw [List.length_append]
            show (R.S a).length + 1 ≤ c + 1
            omega
        rcases hP with ⟨h1, rfl, hS⟩ | ⟨h1, h2, h3, h4, h5, rfl, hS⟩ | ⟨h1, h2, h3, h4, rfl, pv', tv', hS, hfp, hft⟩
        · exact ⟨false, R.P a, R.S a, R.pv a, R.tv a, m, rfl, .inl ⟨h1.elim .inl (fun q => .inr (.inr q)), rfl, rfl, rfl⟩, hsame (b := true) hS, hKU, TvSub.put (fun g hg => .inl hg) hama⟩
        · exact ⟨false, R.P a, R.S a, R.pv a, R.tv a, m, rfl, .inr (.inl ⟨⟨h1, hub, h2, h3⟩, h4, hmm.2 h5, rfl, rfl, rfl⟩), hsame (b := true) hS, hKU, TvSub.put (fun g hg => .inl hg) hama⟩
        · refine ⟨true, _, _, pv', tv', m, rfl, .inr (.inr ⟨⟨h1, hub, h2, h3⟩, h4.imp id (fun q => by omega), rfl, rfl, rfl⟩), hback hS (fun j h5 h6 h7 => by rw [fset_ne (by omega), fset_ne (by omega), fset_ne (by omega)]) (fun g hg => .inr (by have := hfp g hg; omega)) (fun g hg => ?_) (by have := put_len (ps := R.P a) (p := (va - va % 64, frame.toNat, bb % 16 / 2 * 2 + 1)) (v := va - va % 64); have := HPL.out; omega) hsn, hKU, TvSub.put (fun g hg => ?_) hama⟩
          · rcases hft g hg with q | q
            · exact .inl (by rw [← HA.out]; exact q)
            · exact .inr (by omega)
          · rcases hft g hg with q | q
            · exact .inl q
            · exact .inr (by omega))
      obtain ⟨b, P', S', pv', tv', mf', rfl, hrest⟩ := HF.out
      clear hkt hP hKT hKU hrest
      go_wp2_with fail
      go_ret
      exact HF.out
end Go.Proofs.Ytpinoejckagjbaa
