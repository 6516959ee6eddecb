/- Contracts of the functions that the law reaches, walked, and the plain laws on them (several texts in one). -/
import Derived.Test.YtpinoejckagjbaaM41
import Derived.Test.YtpinoejckagjbaaM42
import Derived.Test.YtpinoejckagjbaaM43

/- The program's spaces: their keys. -/
namespace Go.Proofs.Ytpinoejckagjbaa
open Go.RowKit Go.Mum Go.Shelf
set_option linter.unusedVariables false
set_option linter.unusedSimpArgs false
set_option maxRecDepth 100000

attribute [local go_sem] Oper.semAt_some

/-- What slices.Backward's function shows in each round. -/
def encB (age : List Nat) (i : Nat) : Array Value := #[.int .i64 (i : Nat), .int .i64 (age.getD i 0 : Nat)]

/-- What lay ahead stays, and one block more. -/
def KpB (n₀ Bs : Nat) (A B : World) : Prop := Below n₀ A B ∧ B.heap[Bs]? = A.heap[Bs]?

theorem kpB_t {n₀ Bs : Nat} {A B C : World} (h : KpB n₀ Bs A B) (k : KpB n₀ Bs B C) : KpB n₀ Bs A C := ⟨h.1.trans k.1, k.2.trans h.2⟩
theorem kpB_b {n₀ Bs : Nat} {w : World} (hn : n₀ ≤ w.heap.size) (hb : Bs < w.heap.size) (W : World) (l : Nat) (o o' : Obj) (hl : w.heap.size ≤ l) (h : W.heap[l]? = some o) (h1 : o.isCells = false) (h2 : o.isWalk = false) : KpB n₀ Bs W (W.putObj l o') :=
  ⟨belowK_b hn W l o o' hl h h1 h2, World.putObj_heap_other (by omega)⟩

theorem own_boxed {β : Type} (B : Nat) (t : TypeId) (v : Value) : Own (fun (_ : β) W => Boxed W B t v) := by
  rintro s X Y row hv hg hrow
  exact hv.kept hg (fun e' => by
    obtain ⟨o, ho, hc⟩ := hrow B e'.symm
    rw [show X.heap[B]? = _ from hv] at ho; cases ho; cases hc)

theorem backward_at (a : Option Addr) (n c : Nat) (w : World) :
    Calls Try.prog 70 #[.slice a n c] w fun e w' => e = .returned (.func (.func 90) #[] #[.pointer (some ⟨w.heap.size, 0, none⟩)]) ∧ w' = w.alloc (.cells #[.slice a n c] 81) := by
  go_enter Try.func70, Try.ntmps70
  go_wp2
  go_ret
  exact ⟨rfl, rfl⟩

theorem drop_rev {n i : Nat} (hi : i < n) : ((List.range n).drop i).reverse = ((List.range n).drop (i + 1)).reverse ++ [i] := by
  rw [List.drop_eq_getElem_cons (by simpa using hi), List.reverse_cons]
  simp

set_option maxHeartbeats 2000000 in
theorem back_in {w : World} {ga gc : Nat} {age : List Nat} (h8 : age.length ≤ 8) (hgl : ga < w.heap.size) (hc : ∀ i (hi : i < age.length), w.cell? ⟨ga, i, none⟩ = some (.int .i64 (age[i] : Nat))) (n Bs : Nat) (w1 : World) (hn : 1 ≤ n) (hB : Below w.heap.size w w1) (hBs : Bs < w1.heap.size) (hbox : Boxed w1 Bs 81 (.slice (some ⟨ga, 0, none⟩) age.length gc)) :
    SeqStopsK Fence.wide n Try.prog 90 #[.pointer (some ⟨Bs, 0, none⟩)] (encB age) (KpB w.heap.size Bs) (fun ys => ys = (List.range age.length).reverse) (fun _ => True) 8 w1 := by
  intro l J Jx W hW _ _ hY h0
  have hbW : Boxed W Bs 81 (.slice (some ⟨ga, 0, none⟩) age.length gc) := (hW.block Bs hBs).trans hbox
  have hWc : ∀ i (hi : i < age.length), W.cell? ⟨ga, i, none⟩ = some (.int .i64 (age[i] : Nat)) := fun i hi => ((hB.trans (hW.mono hB.size)).cell (p := ⟨ga, i, none⟩) hgl).trans (hc i hi)
  have HW := Lib.hid (And.intro hbW hWc)
  have HY := Lib.hid hY
  have H0 := Lib.hid h0
  obtain ⟨m, hm⟩ : ∃ m, m = age.length := ⟨_, rfl⟩
  have HM := Lib.hid hm
  have hm8 : m ≤ 8 := by omega
  rw [← hm]
  have hbc := hbW.cell
  rw [← hm] at hbc
  clear hY h0 hbW hWc hc hbox hm
  refine callsIn_of_wp Try.func90 rfl trivial ?_ rfl
  simp only [Try.ntmps90, List.size_toArray, List.length_cons, List.length_nil, Nat.reduceAdd, Nat.reduceSub, Array.replicate_succ, Array.replicate_zero, List.push_toArray, List.append_toArray, List.nil_append, List.cons_append]
  have w1 : IntKind.i64.wrap ((m : Int) - 1) = (m : Int) - 1 := IntWalk.i64_in _ (by omega)
  gi_wp2
  gi_loopw [3] (fun kv wr => ∃ k : Nat, kv = .int .i64 ((k : Int) - 1) ∧ k ≤ m ∧ Hid (J ((List.range m).drop k).reverse wr ∧ KpB w.heap.size Bs W wr)) (fun kv _ => (intOf kv + 1).toNat)
  case atStart => exact ⟨m, rfl, by omega, Lib.hid ⟨by rw [List.drop_of_length_le (by simp)]; exact H0.out, Below.refl _ _, rfl⟩⟩
  case round =>
    obtain ⟨k, rfl, hk1, HJ⟩ := hrel
    by_cases hk0 : k = 0
    · subst hk0
      have hk3 : ¬ ((0 : Int) ≤ ((0 : Nat) : Int) - 1) := by omega
      have HF : Hid (J (List.range m).reverse wr) := Lib.hid (by have := HJ.out.1; rwa [List.drop_zero] at this)
      clear HJ
      gi_wp2
      go_end0
      first
        | exact HF.out
        | exact ⟨⟨_, rfl⟩, .inl HF.out⟩
        | exact .inl HF.out
        | exact ⟨⟨_, rfl⟩, .inl ⟨_, rfl, HF.out⟩⟩
    · obtain ⟨i, rfl⟩ : ∃ i, k = i + 1 := ⟨k - 1, by omega⟩
      have hkk : ((i + 1 : Nat) : Int) - 1 = (i : Int) := by omega
      rw [hkk]
      have hi : i < age.length := by have := HM.out; omega
      have hi0 : (0 : Int) ≤ (i : Int) := by omega
      have hi1 : (i : Int) < (m : Int) := by omega
      have w2 : IntKind.i64.wrap ((i : Int) - 1) = (i : Int) - 1 := IntWalk.i64_in _ (by omega)
      have hb2 : wr.cell? ⟨Bs, 0, none⟩ = some (.slice (some ⟨ga, 0, none⟩) m gc) := by
        have : Boxed wr Bs 81 (.slice (some ⟨ga, 0, none⟩) age.length gc) := HJ.out.2.2.trans HW.out.1
        rw [HM.out]; exact this.cell
      have hc2 : wr.cell? ⟨ga, i, none⟩ = some (.int .i64 (age.getD i 0 : Nat)) := by
        rw [List.getD_eq_getElem?_getD, List.getElem?_eq_getElem hi]
        exact (HJ.out.2.1.cell (p := ⟨ga, i, none⟩) hgl).trans (HW.out.2 i hi)
      obtain ⟨fn, tmps, assign, body, hy, hR⟩ := HY.out _ i wr HJ.out.1 (by simp; omega)
      obtain ⟨av, hav⟩ : ∃ av, av = age.getD i 0 := ⟨_, rfl⟩
      have henc : encB age i = #[.int .i64 (i : Nat), .int .i64 (av : Nat)] := by rw [hav]; rfl
      rw [henc] at hy
      rw [← hav] at hc2
      have hxB := HJ.out.2
      clear hav henc hkk
      gi_wp2
      refine hR.mono ?_
      rintro e W3 (⟨rfl, hJ3, hk3⟩ | ⟨rfl, hJx3⟩)
      · have HN : Hid (J ((List.range m).drop i).reverse W3 ∧ KpB w.heap.size Bs W W3) := Lib.hid ⟨by rw [drop_rev (by omega)]; exact hJ3, kpB_t hxB hk3⟩
        clear hJ3 hk3 hxB HJ hb2 hc2
        gi_wp2
        go_roundw
        case rel => exact ⟨i, rfl, by omega, HN⟩
        case measure => simp [intOf]
      · clear HJ hb2 hc2
        gi_wp2
        refine bodyPost_ret (results_none rfl _ _ _) rfl ?_
        exact ⟨⟨_, rfl⟩, .inr ⟨_, trivial, hJx3⟩⟩

/-- A key of the program's. -/
def keyW (A : QSt) (k : Nat) : List Value := [.int .u32 (A.kp k : Nat), .int .u32 (A.kr k : Nat)]
def keysOf (A : QSt) (age : List Nat) (pre : List Nat) : List Nat := (pre.map fun i => age.getD i 0).filter A.tk

def SKeys (A : QSt) (age : List Nat) (x : World) (e : Ending) (y : World) : Prop :=
  ∃ v, e = .returned v ∧ y.ownsRow x.heap.size 70 2 v (age.reverse.filter A.tk).length ((age.reverse.filter A.tk).flatMap (keyW A)) ∧ Keep [] x y

theorem keysOf_all (A : QSt) (age : List Nat) : keysOf A age (List.range age.length).reverse = age.reverse.filter A.tk := by
  unfold keysOf
  rw [List.map_reverse]
  congr 2
  apply List.ext_getElem
  · simp
  · intro i h1 h2
    simp [h2]

theorem info_keyE : (Try.prog.info? 70).map (fun i => (i.zero, i.size, i.bytes)) = some (some (.agg #[.int .u32 0, .int .u32 0]), 2, 8) := by kernel_rfl

set_option maxHeartbeats 4000000 in
theorem spkeys_at {x : World} {q r fb g p pm ns : Nat} {sh : Nat → Nat} {A : QSt} {age : List Nat} {use : Bool} {kept lost : Nat} {f : Nat → Value} {ga gc : Nat} {ea : Option Addr} {ec : Nat} {us : List Nat} (h : QAt x q r fb g p pm ns sh A age use kept lost f ga gc ea ec us) :
    Calls Try.prog 35 #[.pointer (some ⟨q, 0, none⟩)] x (SKeys A age x) := by
  refine (callsIn_wide (n := 3)).1 ?_
  obtain ⟨i0, hi, hz0, hz1, hz2⟩ := info_parts info_keyE
  have HS := Lib.hid h
  have E := Lib.hid (fun W => backward_at (some ⟨ga, 0, none⟩) ns gc W)
  have C0 := Lib.hid (fun u (hu : Go.Mum.Keep [] x u) => none_at (h.keep0 hu).cellsU.1)
  have hc3 := h.cellsU.2.1
  have c3 : ∀ o1 o2, ((x.alloc o1).alloc o2).cell? ⟨q, 43, none⟩ = some (.slice (some ⟨ga, 0, none⟩) ns gc) := fun o1 o2 => (((Go.Mum.Keep.refl [] x).alloc o1).alloc o2).cell hc3 (by simp)
  clear h hc3
  refine callsIn_of_wp_marks Try.func35 rfl trivial ?_ rfl
  simp only [Try.ntmps35, List.size_toArray, List.length_cons, List.length_nil, Nat.reduceAdd, Nat.reduceSub, Array.replicate_succ, Array.replicate_zero, List.push_toArray, List.append_toArray, List.nil_append, List.cons_append]
  gi_wp2_with (first
    | (refine ⟨trivial, ?_⟩; gi_at_call 60; refine (callsIn_wide.2 (C0.out _ ((Go.Mum.Keep.refl [] x).alloc _))).mono ?_; rintro e w' ⟨rfl, rfl⟩)
    | (refine ⟨trivial, ?_⟩; gi_at_call 70; refine (callsIn_wide.2 (E.out _)).mono ?_; rintro e w' ⟨rfl, rfl⟩))
  obtain ⟨w3, hw3⟩ : ∃ w3, w3 = (((x.alloc (.cells #[.pointer (some ⟨q, 0, none⟩)] 75)).alloc (.cells #[.slice none 0 0] 84)).alloc (.cells #[.slice (some ⟨ga, 0, none⟩) ns gc] 81)) := ⟨_, rfl⟩
  have b1 : Boxed w3 x.heap.size 75 (.pointer (some ⟨q, 0, none⟩)) := by rw [hw3]; exact ((Boxed.new x _ _).alloc _).alloc _
  have b3 : Boxed w3 (x.heap.size + 1) 84 (.slice none 0 0) := by
    rw [hw3]
    have := (Boxed.new (x.alloc (.cells #[.pointer (some ⟨q, 0, none⟩)] 75)) 84 (.slice none 0 0)).alloc (.cells #[.slice (some ⟨ga, 0, none⟩) ns gc] 81)
    simpa using this
  have bs : Boxed w3 (x.heap.size + 2) 81 (.slice (some ⟨ga, 0, none⟩) ns gc) := by
    rw [hw3]
    have := Boxed.new ((x.alloc (.cells #[.pointer (some ⟨q, 0, none⟩)] 75)).alloc (.cells #[.slice none 0 0] 84)) 81 (.slice (some ⟨ga, 0, none⟩) ns gc)
    simpa using this
  have hB0 : Below x.heap.size x w3 := by rw [hw3]; exact (((Below.refl _ x).alloc (Nat.le_refl _) _).alloc (by simp) _).alloc (by simp; omega) _
  have hsz3 : w3.heap.size = x.heap.size + 3 := by rw [hw3]; simp
  rw [← hw3]
  have hlen := HS.out.len
  have hns8 := HS.out.ns8
  obtain ⟨hgc, hgm, hga, cug, hcug⟩ := HS.out.ageCell
  have hgl := lt_of_heap hcug
  have BI := back_in (w := x) (ga := ga) (gc := gc) (age := age) (by omega) hgl hga (3 - 1) (x.heap.size + 2) w3 (by omega) hB0 (by omega) (by rw [hlen]; exact bs)
  have HQF := Lib.hid (fun (W : World) (hW : Below x.heap.size x W) => HS.out.keep0 (below_keep hW (Nat.le_refl _)))
  clear hw3 hga hcug E C0 c3
  refine wpIn_rangeFunc_ownG rfl (by omega) (gf := 90) (lb := #[.pointer (some ⟨x.heap.size + 1 + 1, 0, none⟩)]) rfl trivial (enters_of Try.func90 (by kernel_rfl) rfl)
    BI kpB_t (kpB_b (by omega) (by omega)) (Below.refl _ _) (fun _ => rfl)
    (fun pre W => ((∃ u, Boxed W (x.heap.size + 1) 84 u ∧ W.ownsRow x.heap.size 70 2 u (keysOf A age pre).length ((keysOf A age pre).flatMap (keyW A)) ∧ (u = .slice none 0 0 ↔ keysOf A age pre = [])) ∧ Below x.heap.size x W) ∧ (Boxed W x.heap.size 75 (.pointer (some ⟨q, 0, none⟩)) ∧ Boxed W (x.heap.size + 1 + 1) 81 (.slice (some ⟨ga, 0, none⟩) ns gc)))
    (fun _ _ _ => False)
    (OwnFrom.and (OwnFrom.and (Own.from (holdsRow_own x.heap.size (x.heap.size + 1) 84 70 2 (fun pre => (keysOf A age pre).length) (fun pre => (keysOf A age pre).flatMap (keyW A)) (fun pre u => u = .slice none 0 0 ↔ keysOf A age pre = [])) _) (ownFrom_below (Nat.le_refl _) (by omega))) (OwnFrom.and (Own.from (own_boxed _ _ _) _) (Own.from (own_boxed _ _ _) _)))
    (fun _ _ _ _ _ hs _ _ => hs)
    ⟨⟨⟨_, b3, World.ownsRow_nil _ _ _ _, by simp [keysOf]⟩, hB0⟩, b1, bs⟩
    (fun i => { tmps := #[.pointer (some ⟨q, 0, none⟩), .pointer (some ⟨x.heap.size, 0, none⟩), .slice none 0 0, .pointer (some ⟨x.heap.size + 1, 0, none⟩), undef, .int .i64 (age.getD i 0 : Nat), .pointer (some ⟨q, 0, none⟩), .bool false, .pointer (some ⟨q, 0, none⟩), .pointer (some ⟨q, 0, none⟩), .pointer (some ⟨q, 43, none⟩), .slice (some ⟨ga, 0, none⟩) ns gc, .func (.func 90) #[] #[.pointer (some ⟨x.heap.size + 1 + 1, 0, none⟩)], .int .i64 (i : Nat), .int .i64 (age.getD i 0 : Nat), undef, undef, undef, undef, undef, undef, undef, undef, undef, undef, undef, undef, undef, undef, undef, undef, undef, undef], defers := [] }) ?assign ?body ?done ?stop
  case assign =>
    intro l i W K hK
    unfold encB
    gi_wp2
    exact hK
  case body =>
    rintro l pre i W ⟨⟨⟨u, hv, hrow, hnil⟩, hB⟩, hb1, hbs⟩ hlt
    have hc := hv.cell
    have hc1 := hb1.cell
    have ha8 : age.getD i 0 < 8 := by
      by_cases hil : i < age.length
      · rw [List.getD_eq_getElem?_getD, List.getElem?_eq_getElem hil]
        have := HS.out.lt _ (List.getElem_mem hil)
        simp only [Option.getD_some]; omega
      · rw [List.getD_eq_getElem?_getD, List.getElem?_eq_none (by omega)]
        decide
    obtain ⟨-, q1, -, q3, q4⟩ := (HQF.out W hB).space ha8
    have hkn : keysOf A age (pre ++ [i]) = keysOf A age pre ++ (if A.tk (age.getD i 0) = true then [age.getD i 0] else []) := by
      unfold keysOf
      have hone : ∀ a, ([a]).filter A.tk = if A.tk a = true then [a] else [] := fun a => by cases hh : A.tk a <;> simp [hh]
      rw [List.map_append, List.filter_append]
      exact congrArg _ (hone _)
    have hkl : (keysOf A age pre).length ≤ 8 := by
      unfold keysOf
      have := List.length_filter_le A.tk (pre.map fun i => age.getD i 0)
      rw [List.length_map] at this
      omega
    have HKN := Lib.hid hkn
    clear hkn
    generalize age.getD i 0 = a at q1 q3 q4 ha8 HKN
    have ha0 : (0 : Int) ≤ (a : Int) := by omega
    have ha9 : (a : Int) < 8 := by omega
    cases htk : A.tk a
    · have hsame : keysOf A age (pre ++ [i]) = keysOf A age pre := by rw [HKN.out, htk]; simp
      rw [htk] at q1
      have HF : Hid (KeepsFrom w3.heap.size W W ∧ KpB x.heap.size (x.heap.size + 2) W W ∧ ((∃ u, Boxed W (x.heap.size + 1) 84 u ∧ W.ownsRow x.heap.size 70 2 u (keysOf A age (pre ++ [i])).length ((keysOf A age (pre ++ [i])).flatMap (keyW A)) ∧ (u = .slice none 0 0 ↔ keysOf A age (pre ++ [i]) = [])) ∧ Below x.heap.size x W) ∧ (Boxed W x.heap.size 75 (.pointer (some ⟨q, 0, none⟩)) ∧ Boxed W (x.heap.size + 1 + 1) 81 (.slice (some ⟨ga, 0, none⟩) ns gc))) := Lib.hid ⟨KeepsFrom.refl _ _, ⟨Below.refl _ _, rfl⟩, ⟨⟨u, hv, by rw [hsame]; exact hrow, by rw [hsame]; exact hnil⟩, hB⟩, hb1, hbs⟩
      clear hrow hnil htk hsame
      gi_wp2
      exact HF.out
    · have hsucc : keysOf A age (pre ++ [i]) = keysOf A age pre ++ [a] := by rw [HKN.out, htk]; simp
      rw [htk] at q1
      have HSU := Lib.hid hsucc
      clear htk hsucc
      gi_wp2
      refine wpIn_region_held_drew (S := fun z => z.cell? ⟨x.heap.size, 0, none⟩ = some (.pointer (some ⟨q, 0, none⟩)) ∧ z.cell? ⟨q, 3 + a * 5 + 3, none⟩ = some (.int .u32 (A.kp a : Nat)) ∧ z.cell? ⟨q, 3 + a * 5 + 4, none⟩ = some (.int .u32 (A.kr a : Nat))) (by kernel_rfl) (no_defer (by kernel_rfl)) (by rintro ⟨_, _, hh⟩; exact hh) ⟨hc1, q3, q4⟩ (fun hHeld => ?_)
      skip
      refine wpAnyH_take (i := 1) (oi := { dst := some 23, op := Op.load 75 (Operand.tmp 1), type := 75, pos := "spaces.go:175", after := #[], guard := none }) (v := ?_) rfl (by kernel_rfl) (by kernel_rfl) (by kernel_rfl) (fun _ _ _ h => h) (Or.inl ⟨by rfl, ?_⟩) (by assumption) ?_
      rotate_left
      focus (intro w hSw; (try dsimp only at hSw); go_simp <;> with_reducible rfl)
      try simp only [Act.put, List.setIfInBounds_toArray, List.set_cons_zero, List.set_cons_succ]
      refine wpAnyH_take (i := 2) (oi := { dst := some 24, op := Op.move (Operand.tmp 5), type := 3, pos := "spaces.go:175", after := #[], guard := none }) (v := ?_) rfl (by kernel_rfl) (by kernel_rfl) (by kernel_rfl) (fun _ _ _ h => h) (Or.inl ⟨by rfl, ?_⟩) (by assumption) ?_
      rotate_left
      focus (intro w hSw; (try dsimp only at hSw); go_simp <;> with_reducible rfl)
      try simp only [Act.put, List.setIfInBounds_toArray, List.set_cons_zero, List.set_cons_succ]
      refine wpAnyH_take (i := 3) (oi := { dst := some 25, op := Op.nilCheck (Operand.tmp 23), type := 0, pos := "spaces.go:175", after := #[{ on := 1, ground := Ground.data }], guard := none }) (v := ?_) rfl (by kernel_rfl) (by kernel_rfl) (by kernel_rfl) (fun _ _ _ h => h) (Or.inl ⟨by rfl, ?_⟩) (by assumption) ?_
      rotate_left
      focus (intro w hSw; (try dsimp only at hSw); go_simp <;> with_reducible rfl)
      try simp only [Act.put, List.setIfInBounds_toArray, List.set_cons_zero, List.set_cons_succ]
      refine wpAnyH_take (i := 4) (oi := { dst := some 26, op := Op.fieldAddr 102 (Operand.tmp 25) 3, type := 0, pos := "spaces.go:175", after := #[{ on := 3, ground := Ground.data }], guard := none }) (v := ?_) rfl (by kernel_rfl) (by kernel_rfl) (by kernel_rfl) (fun _ _ _ h => h) (Or.inl ⟨by rfl, ?_⟩) (by assumption) ?_
      rotate_left
      focus (intro w hSw; (try dsimp only at hSw); go_simp <;> with_reducible rfl)
      try simp only [Act.put, List.setIfInBounds_toArray, List.set_cons_zero, List.set_cons_succ]
      refine wpAnyH_take (i := 5) (oi := { dst := some 27, op := Op.indexAddr 95 (Operand.tmp 26) (Operand.tmp 24), type := 0, pos := "spaces.go:175", after := #[{ on := 4, ground := Ground.data }, { on := 2, ground := Ground.data }], guard := none }) (v := ?_) rfl (by kernel_rfl) (by kernel_rfl) (by kernel_rfl) (fun _ _ _ h => h) (Or.inl ⟨by rfl, ?_⟩) (by assumption) ?_
      rotate_left
      focus (intro w hSw; (try dsimp only at hSw); go_simp <;> with_reducible rfl)
      try simp only [Act.put, List.setIfInBounds_toArray, List.set_cons_zero, List.set_cons_succ]
      refine wpAnyH_take (i := 6) (oi := { dst := some 28, op := Op.fieldAddr 94 (Operand.tmp 27) 3, type := 0, pos := "spaces.go:175", after := #[{ on := 5, ground := Ground.data }], guard := none }) (v := ?_) rfl (by kernel_rfl) (by kernel_rfl) (by kernel_rfl) (fun _ _ _ h => h) (Or.inl ⟨by rfl, ?_⟩) (by assumption) ?_
      rotate_left
      focus (intro w hSw; (try dsimp only at hSw); go_simp <;> with_reducible rfl)
      try simp only [Act.put, List.setIfInBounds_toArray, List.set_cons_zero, List.set_cons_succ]
      refine wpAnyH_take (i := 7) (oi := { dst := some 29, op := Op.load 70 (Operand.tmp 28), type := 70, pos := "spaces.go:175", after := #[{ on := 6, ground := Ground.data }], guard := none }) (v := ?_) rfl (by kernel_rfl) (by kernel_rfl) (by kernel_rfl) (fun _ _ _ h => h) (Or.inl ⟨by rfl, ?_⟩) (by assumption) ?_
      rotate_left
      focus (intro w hSw; (try dsimp only at hSw); go_simp <;> with_reducible rfl)
      try simp only [Act.put, List.setIfInBounds_toArray, List.set_cons_zero, List.set_cons_succ]
      refine wpAnyH_ready (rs := [0, 8]) (by kernel_rfl) (by simp) ?_
      refine AllReadyH.cons (o := { dst := some 22, op := Op.load 84 (Operand.tmp 3), type := 84, pos := "spaces.go:175", after := #[], guard := none }) rfl (fun K hK => ?_) (AllReadyH.cons (o := { dst := some 30, op := Op.buildSlice 84 1 #[(0, Operand.tmp 29)], type := 84, pos := "spaces.go:175", after := #[{ on := 7, ground := Ground.data }], guard := none }) rfl (fun K hK => ?_) AllReadyH.nil)
      all_goals go_simp
      · refine shut_grow _ hK (fun _ h => h) hHeld (fun hHeld1 => ?_)
        clear hK K
        refine wpAnyH_ready (rs := [8]) (by kernel_rfl) (by simp) ?_
        refine AllReadyH.cons (o := { dst := some 30, op := Op.buildSlice 84 1 #[(0, Operand.tmp 29)], type := 84, pos := "spaces.go:175", after := #[{ on := 7, ground := Ground.data }], guard := none }) rfl (fun K hK => ?_) AllReadyH.nil
        go_simp
        have hk3 : Go.Mum.Keep [] W (W.drew.alloc (.cells #[.int .u32 (A.kp a : Nat), .int .u32 (A.kr a : Nat)] 70)) := ((Go.Mum.Keep.refl [] W).drew).alloc _
        have hrowA := (show W.drew.ownsRow x.heap.size 70 2 u (keysOf A age pre).length ((keysOf A age pre).flatMap (keyW A)) from own_keep hrow ((Go.Mum.Keep.refl [] W).drew) (fun _ _ => by simp)).alloc (.cells #[.int .u32 (A.kp a : Nat), .int .u32 (A.kr a : Nat)] 70)
        have hcA := hk3.cell hc (by simp)
        have hcA2 : (W.alloc (.cells #[.int .u32 (A.kp a : Nat), .int .u32 (A.kr a : Nat)] 70)).cell? ⟨x.heap.size + 1, 0, none⟩ = some u := ((Go.Mum.Keep.refl [] W).alloc _).cell hc (by simp)
        refine shut_grow _ hK (fun _ h => h) ⟨hk3.cell hc1 (by simp), hk3.cell q3 (by simp), hk3.cell q4 (by simp)⟩ (fun hHeld2 => ?_)
        clear hK K
        refine wpAnyH_ready (rs := [9]) (by kernel_rfl) (by simp) ?_
        refine AllReadyH.cons (o := { dst := some 31, op := Op.call { callee := Callee.builtin Builtin.append, args := #[Operand.tmp 22, Operand.tmp 30], argTypes := #[84, 84] }, type := 84, pos := "spaces.go:175", after := #[{ on := 0, ground := Ground.data }, { on := 8, ground := Ground.data }], guard := none }) rfl (fun K hK => ?_) AllReadyH.nil
        rw [if_pos (by rfl)]
        refine wp_append_own _ (.tmp 22) (.tmp 30) 84 rfl x.heap.size 70 i0 (.agg #[.int .u32 0, .int .u32 0]) 2 8 Try.underlying84 hi hz0 hz1 hz2 rfl (by decide) u _ _ (by rfl) hrowA ⟨W.drew.heap.size, 0, none⟩ 1 1 [.int .u32 (A.kp a : Nat), .int .u32 (A.kr a : Nat)] (by rfl) rfl (cells_two_new _ _ _ _) (by simp [Value.oneCell']) (by unfold maxLen; omega) (by omega) (by have := hB.size; simp; omega) ?_
        intro v' w1 hown' hgrow _
        obtain ⟨lv, lc, hlv⟩ := own_form hown'
        subst hlv
        have hgrow' : (W.alloc (.cells #[.int .u32 (A.kp a : Nat), .int .u32 (A.kr a : Nat)] 70)).grownBy w1 u.ownBlock := by obtain ⟨g1, g2, g3, g4, g5⟩ := hgrow; exact ⟨g1, g2, g3, g4, g5⟩
        clear hgrow
        have hap := hv.appended (by decide) hrow hB.size (by omega) hown' hgrow'
        have hb1w : Boxed w1 x.heap.size 75 (.pointer (some ⟨q, 0, none⟩)) := (hb1.alloc _).kept hgrow' (hb1.not_row (by decide) hrow)
        have hbsw : Boxed w1 (x.heap.size + 1 + 1) 81 (.slice (some ⟨ga, 0, none⟩) ns gc) := (hbs.alloc _).kept hgrow' (hbs.not_row (by decide) hrow)
        have hBw : Below x.heap.size W w1 := ((Below.refl x.heap.size W).alloc hB.size _).grown hgrow' (by have := hB.size; simp; omega) (fun j ej => (own_block hrow ej).1)
        have hql : q < x.heap.size := HS.out.ltb q (by simp [qNb])
        have hS1 := hb1w.cell
        have hS2 := hap.1.cell
        have hS3 := (hBw.cell (p := ⟨q, 3 + a * 5 + 3, none⟩) hql).trans q3
        have hS4 := (hBw.cell (p := ⟨q, 3 + a * 5 + 4, none⟩) hql).trans q4
        have hf1 := hap.1.frozen
        have HF : Hid (KeepsFrom w3.heap.size W (w1.setCell ⟨x.heap.size + 1, 0, none⟩ (.slice lv ((keysOf A age pre).length + 1) lc)) ∧ KpB x.heap.size (x.heap.size + 2) W (w1.setCell ⟨x.heap.size + 1, 0, none⟩ (.slice lv ((keysOf A age pre).length + 1) lc)) ∧ ((∃ u, Boxed (w1.setCell ⟨x.heap.size + 1, 0, none⟩ (.slice lv ((keysOf A age pre).length + 1) lc)) (x.heap.size + 1) 84 u ∧ (w1.setCell ⟨x.heap.size + 1, 0, none⟩ (.slice lv ((keysOf A age pre).length + 1) lc)).ownsRow x.heap.size 70 2 u (keysOf A age (pre ++ [i])).length ((keysOf A age (pre ++ [i])).flatMap (keyW A)) ∧ (u = .slice none 0 0 ↔ keysOf A age (pre ++ [i]) = [])) ∧ Below x.heap.size x (w1.setCell ⟨x.heap.size + 1, 0, none⟩ (.slice lv ((keysOf A age pre).length + 1) lc))) ∧ (Boxed (w1.setCell ⟨x.heap.size + 1, 0, none⟩ (.slice lv ((keysOf A age pre).length + 1) lc)) x.heap.size 75 (.pointer (some ⟨q, 0, none⟩)) ∧ Boxed (w1.setCell ⟨x.heap.size + 1, 0, none⟩ (.slice lv ((keysOf A age pre).length + 1) lc)) (x.heap.size + 1 + 1) 81 (.slice (some ⟨ga, 0, none⟩) ns gc))) := Lib.hid (by
          obtain ⟨hv1, hv2, hr2, hk2, hb2⟩ := hap
          have h1 : Boxed (w1.setCell ⟨x.heap.size + 1, 0, none⟩ (.slice lv ((keysOf A age pre).length + 1) lc)) x.heap.size 75 (.pointer (some ⟨q, 0, none⟩)) := hb1w.kept (grownBy_setCell' w1 _ _) (by simp)
          have h2 : Boxed (w1.setCell ⟨x.heap.size + 1, 0, none⟩ (.slice lv ((keysOf A age pre).length + 1) lc)) (x.heap.size + 1 + 1) 81 (.slice (some ⟨ga, 0, none⟩) ns gc) := hbsw.kept (grownBy_setCell' w1 _ _) (by simp)
          refine ⟨hk2.from _, ⟨hb2, h2.trans hbs.symm⟩, ⟨⟨_, hv2, ?_, ?_⟩, hB.trans hb2⟩, h1, h2⟩
          · rw [HSU.out, List.length_append, List.flatMap_append]; exact hr2
          · rw [HSU.out]; simp)
        have HS3 : Hid ((w1.setCell ⟨x.heap.size + 1, 0, none⟩ (.slice lv ((keysOf A age pre).length + 1) lc)).cell? ⟨q, 3 + a * 5 + 3, none⟩ = some (.int .u32 (A.kp a : Nat))) := Lib.hid ((HF.out.2.1.1.cell (p := ⟨q, 3 + a * 5 + 3, none⟩) hql).trans q3)
        have HS4 : Hid ((w1.setCell ⟨x.heap.size + 1, 0, none⟩ (.slice lv ((keysOf A age pre).length + 1) lc)).cell? ⟨q, 3 + a * 5 + 4, none⟩ = some (.int .u32 (A.kr a : Nat))) := Lib.hid ((HF.out.2.1.1.cell (p := ⟨q, 3 + a * 5 + 4, none⟩) hql).trans q4)
        refine shut_grow _ hK (fun _ h => h) ⟨hS1, hS3, hS4⟩ (fun hHeld3 => ?_)
        clear hK K hap hv hc hrow hnil hb1 hbs
        skip
        refine wpAnyH_ready (rs := [10]) (by kernel_rfl) (by simp) ?_
        refine AllReadyH.cons (o := { dst := none, op := Op.store 84 (Operand.tmp 3) (Operand.tmp 31), type := 0, pos := "spaces.go:175", after := #[{ on := 9, ground := Ground.data }, { on := 9, ground := Ground.chain }, { on := 0, ground := Ground.phase }, { on := 1, ground := Ground.phase }, { on := 2, ground := Ground.phase }, { on := 3, ground := Ground.phase }, { on := 4, ground := Ground.phase }, { on := 5, ground := Ground.phase }, { on := 6, ground := Ground.phase }, { on := 7, ground := Ground.phase }, { on := 8, ground := Ground.phase }, { on := 9, ground := Ground.phase }], guard := none }) rfl (fun K hK => ?_) AllReadyH.nil
        go_simp
        refine shut_grow (fun z => z = w1.setCell ⟨x.heap.size + 1, 0, none⟩ (.slice lv ((keysOf A age pre).length + 1) lc)) hK (fun z hz => by rw [hz]; exact ⟨HF.out.2.2.2.1.cell, HS3.out, HS4.out⟩) rfl (fun hHeld4 => ?_)
        clear hK K
        refine wpAnyH_done (by kernel_rfl) ?_ _
        first
          | exact HF.out
          | (gi_wp2; exact HF.out)
          | trace_state
      · skip
        have hk3 : Go.Mum.Keep [] W (W.drew.alloc (.cells #[.int .u32 (A.kp a : Nat), .int .u32 (A.kr a : Nat)] 70)) := ((Go.Mum.Keep.refl [] W).drew).alloc _
        have hrowA := (show W.drew.ownsRow x.heap.size 70 2 u (keysOf A age pre).length ((keysOf A age pre).flatMap (keyW A)) from own_keep hrow ((Go.Mum.Keep.refl [] W).drew) (fun _ _ => by simp)).alloc (.cells #[.int .u32 (A.kp a : Nat), .int .u32 (A.kr a : Nat)] 70)
        have hcA := hk3.cell hc (by simp)
        have hcA2 : (W.alloc (.cells #[.int .u32 (A.kp a : Nat), .int .u32 (A.kr a : Nat)] 70)).cell? ⟨x.heap.size + 1, 0, none⟩ = some u := ((Go.Mum.Keep.refl [] W).alloc _).cell hc (by simp)
        refine shut_grow _ hK (fun _ h => h) ⟨hk3.cell hc1 (by simp), hk3.cell q3 (by simp), hk3.cell q4 (by simp)⟩ (fun hHeld2 => ?_)
        clear hK K
        refine wpAnyH_ready (rs := [0]) (by kernel_rfl) (by simp) ?_
        refine AllReadyH.cons (o := { dst := some 22, op := Op.load 84 (Operand.tmp 3), type := 84, pos := "spaces.go:175", after := #[], guard := none }) rfl (fun K hK => ?_) AllReadyH.nil
        go_simp
        refine shut_grow _ hK (fun _ h => h) ⟨hk3.cell hc1 (by simp), hk3.cell q3 (by simp), hk3.cell q4 (by simp)⟩ (fun hHeld1 => ?_)
        clear hK K
        refine wpAnyH_ready (rs := [9]) (by kernel_rfl) (by simp) ?_
        refine AllReadyH.cons (o := { dst := some 31, op := Op.call { callee := Callee.builtin Builtin.append, args := #[Operand.tmp 22, Operand.tmp 30], argTypes := #[84, 84] }, type := 84, pos := "spaces.go:175", after := #[{ on := 0, ground := Ground.data }, { on := 8, ground := Ground.data }], guard := none }) rfl (fun K hK => ?_) AllReadyH.nil
        rw [if_pos (by rfl)]
        refine wp_append_own _ (.tmp 22) (.tmp 30) 84 rfl x.heap.size 70 i0 (.agg #[.int .u32 0, .int .u32 0]) 2 8 Try.underlying84 hi hz0 hz1 hz2 rfl (by decide) u _ _ (by rfl) hrowA ⟨W.drew.heap.size, 0, none⟩ 1 1 [.int .u32 (A.kp a : Nat), .int .u32 (A.kr a : Nat)] (by rfl) rfl (cells_two_new _ _ _ _) (by simp [Value.oneCell']) (by unfold maxLen; omega) (by omega) (by have := hB.size; simp; omega) ?_
        intro v' w1 hown' hgrow _
        obtain ⟨lv, lc, hlv⟩ := own_form hown'
        subst hlv
        have hgrow' : (W.alloc (.cells #[.int .u32 (A.kp a : Nat), .int .u32 (A.kr a : Nat)] 70)).grownBy w1 u.ownBlock := by obtain ⟨g1, g2, g3, g4, g5⟩ := hgrow; exact ⟨g1, g2, g3, g4, g5⟩
        clear hgrow
        have hap := hv.appended (by decide) hrow hB.size (by omega) hown' hgrow'
        have hb1w : Boxed w1 x.heap.size 75 (.pointer (some ⟨q, 0, none⟩)) := (hb1.alloc _).kept hgrow' (hb1.not_row (by decide) hrow)
        have hbsw : Boxed w1 (x.heap.size + 1 + 1) 81 (.slice (some ⟨ga, 0, none⟩) ns gc) := (hbs.alloc _).kept hgrow' (hbs.not_row (by decide) hrow)
        have hBw : Below x.heap.size W w1 := ((Below.refl x.heap.size W).alloc hB.size _).grown hgrow' (by have := hB.size; simp; omega) (fun j ej => (own_block hrow ej).1)
        have hql : q < x.heap.size := HS.out.ltb q (by simp [qNb])
        have hS1 := hb1w.cell
        have hS2 := hap.1.cell
        have hS3 := (hBw.cell (p := ⟨q, 3 + a * 5 + 3, none⟩) hql).trans q3
        have hS4 := (hBw.cell (p := ⟨q, 3 + a * 5 + 4, none⟩) hql).trans q4
        have hf1 := hap.1.frozen
        have HF : Hid (KeepsFrom w3.heap.size W (w1.setCell ⟨x.heap.size + 1, 0, none⟩ (.slice lv ((keysOf A age pre).length + 1) lc)) ∧ KpB x.heap.size (x.heap.size + 2) W (w1.setCell ⟨x.heap.size + 1, 0, none⟩ (.slice lv ((keysOf A age pre).length + 1) lc)) ∧ ((∃ u, Boxed (w1.setCell ⟨x.heap.size + 1, 0, none⟩ (.slice lv ((keysOf A age pre).length + 1) lc)) (x.heap.size + 1) 84 u ∧ (w1.setCell ⟨x.heap.size + 1, 0, none⟩ (.slice lv ((keysOf A age pre).length + 1) lc)).ownsRow x.heap.size 70 2 u (keysOf A age (pre ++ [i])).length ((keysOf A age (pre ++ [i])).flatMap (keyW A)) ∧ (u = .slice none 0 0 ↔ keysOf A age (pre ++ [i]) = [])) ∧ Below x.heap.size x (w1.setCell ⟨x.heap.size + 1, 0, none⟩ (.slice lv ((keysOf A age pre).length + 1) lc))) ∧ (Boxed (w1.setCell ⟨x.heap.size + 1, 0, none⟩ (.slice lv ((keysOf A age pre).length + 1) lc)) x.heap.size 75 (.pointer (some ⟨q, 0, none⟩)) ∧ Boxed (w1.setCell ⟨x.heap.size + 1, 0, none⟩ (.slice lv ((keysOf A age pre).length + 1) lc)) (x.heap.size + 1 + 1) 81 (.slice (some ⟨ga, 0, none⟩) ns gc))) := Lib.hid (by
          obtain ⟨hv1, hv2, hr2, hk2, hb2⟩ := hap
          have h1 : Boxed (w1.setCell ⟨x.heap.size + 1, 0, none⟩ (.slice lv ((keysOf A age pre).length + 1) lc)) x.heap.size 75 (.pointer (some ⟨q, 0, none⟩)) := hb1w.kept (grownBy_setCell' w1 _ _) (by simp)
          have h2 : Boxed (w1.setCell ⟨x.heap.size + 1, 0, none⟩ (.slice lv ((keysOf A age pre).length + 1) lc)) (x.heap.size + 1 + 1) 81 (.slice (some ⟨ga, 0, none⟩) ns gc) := hbsw.kept (grownBy_setCell' w1 _ _) (by simp)
          refine ⟨hk2.from _, ⟨hb2, h2.trans hbs.symm⟩, ⟨⟨_, hv2, ?_, ?_⟩, hB.trans hb2⟩, h1, h2⟩
          · rw [HSU.out, List.length_append, List.flatMap_append]; exact hr2
          · rw [HSU.out]; simp)
        have HS3 : Hid ((w1.setCell ⟨x.heap.size + 1, 0, none⟩ (.slice lv ((keysOf A age pre).length + 1) lc)).cell? ⟨q, 3 + a * 5 + 3, none⟩ = some (.int .u32 (A.kp a : Nat))) := Lib.hid ((HF.out.2.1.1.cell (p := ⟨q, 3 + a * 5 + 3, none⟩) hql).trans q3)
        have HS4 : Hid ((w1.setCell ⟨x.heap.size + 1, 0, none⟩ (.slice lv ((keysOf A age pre).length + 1) lc)).cell? ⟨q, 3 + a * 5 + 4, none⟩ = some (.int .u32 (A.kr a : Nat))) := Lib.hid ((HF.out.2.1.1.cell (p := ⟨q, 3 + a * 5 + 4, none⟩) hql).trans q4)
        refine shut_grow _ hK (fun _ h => h) ⟨hS1, hS3, hS4⟩ (fun hHeld3 => ?_)
        clear hK K hap hv hc hrow hnil hb1 hbs
        skip
        refine wpAnyH_ready (rs := [10]) (by kernel_rfl) (by simp) ?_
        refine AllReadyH.cons (o := { dst := none, op := Op.store 84 (Operand.tmp 3) (Operand.tmp 31), type := 0, pos := "spaces.go:175", after := #[{ on := 9, ground := Ground.data }, { on := 9, ground := Ground.chain }, { on := 0, ground := Ground.phase }, { on := 1, ground := Ground.phase }, { on := 2, ground := Ground.phase }, { on := 3, ground := Ground.phase }, { on := 4, ground := Ground.phase }, { on := 5, ground := Ground.phase }, { on := 6, ground := Ground.phase }, { on := 7, ground := Ground.phase }, { on := 8, ground := Ground.phase }, { on := 9, ground := Ground.phase }], guard := none }) rfl (fun K hK => ?_) AllReadyH.nil
        go_simp
        refine shut_grow (fun z => z = w1.setCell ⟨x.heap.size + 1, 0, none⟩ (.slice lv ((keysOf A age pre).length + 1) lc)) hK (fun z hz => by rw [hz]; exact ⟨HF.out.2.2.2.1.cell, HS3.out, HS4.out⟩) rfl (fun hHeld4 => ?_)
        clear hK K
        refine wpAnyH_done (by kernel_rfl) ?_ _
        first
          | exact HF.out
          | (gi_wp2; exact HF.out)
          | trace_state
  case done =>
    rintro D ys W hD rfl ⟨⟨⟨u, hv, hrow, hnil⟩, hB⟩, hb1, hbs⟩ hK
    have hc := hv.cell
    gi_wp2
    refine ⟨by simp, .inl ⟨_, _, rfl, run_takeDeferred hK, ?_⟩⟩
    rw [keysOf_all] at hrow
    refine ⟨_, results_tmp rfl _ _ _, u, rfl, ownsRow_putObj hrow _ hK rfl, below_keep (hB.trans (belowK_b (w := x) (Nat.le_refl _) W D _ _ (by omega) hK rfl rfl)) (Nat.le_refl _)⟩
  case stop =>
    rintro D c pre W _ _ h _
    exact h.elim
end Go.Proofs.Ytpinoejckagjbaa
