/- Contracts of the functions that the law reaches, walked, and the plain laws on them (several texts in one). -/
import Derived.Deep.DeepAppendRoom
import Derived.Outline
import Derived.Test.YtpinoejckagjbaaM32
import Derived.Test.YtpinoejckagjbaaM31

/- The program's spaces: one made the youngest. -/
namespace Go.Proofs.Ytpinoejckagjbaa
open Go.RowKit Go.Mum
set_option linter.unusedVariables false
set_option linter.unusedSimpArgs false
set_option maxRecDepth 100000

theorem lt_of_cell {w : World} {b i : Nat} {v : Value} (h : w.cell? ⟨b, i, none⟩ = some v) : b < w.heap.size := by
  by_cases hh : b < w.heap.size
  · exact hh
  · exfalso
    have h0 : w.heap[b]? = none := Array.getElem?_eq_none (by omega)
    simp [World.cell?, h0] at h

/-- The rows' first cells are set anew. -/
theorem own_sets {w : World} {B : Nat} {e : TypeId} {g n cap : Nat} {xs : List Value} (h : w.ownsRow B e 1 (.slice (some ⟨g, 0, none⟩) n cap) n xs) (vs : List Value) (hv : vs.length = n) {m : Nat} (hm : m ≤ n) : (w.setCells g 0 vs).ownsRow B e 1 (.slice (some ⟨g, 0, none⟩) m cap) m (vs.take m) := by
  rcases h.2 with ⟨h1, _⟩ | ⟨g1, cap1, cur, h1, hB, hh, hcap, hmax, hsz, htk⟩
  · cases h1
  · cases h1
    have harr : ArrAt w g e (cap * 1) (fun j => cur.toList.getD j undef) := ⟨cur, hh, hsz, fun j hj => by
      have : j < cur.toList.length := by simpa [hsz] using hj
      show cur[j]? = some (cur.toList.getD j undef)
      rw [List.getD_eq_getElem?_getD, ← Array.getElem?_toList, List.getElem?_eq_getElem this]
      rfl⟩
    have h2 := sets_at vs 0 _ _ harr
    refine own_of_arr h2 hB (by omega) hmax (by rw [List.length_take]; omega) (fun j hj => ?_)
    show (if 0 ≤ j ∧ j < 0 + vs.length then vs.getD (j - 0) undef else _) = _
    rw [if_pos (by omega), List.getD_eq_getElem?_getD, List.getD_eq_getElem?_getD, List.getElem?_take, if_pos (by omega)]
    rfl

theorem filter_split {l : List Nat} (hn : l.Nodup) {i : Nat} (hi : i < l.length) : l.take i ++ l.drop (i + 1) = l.filter (fun z => decide (z ≠ l[i])) := by
  have hl : l = l.take i ++ l[i] :: l.drop (i + 1) := by rw [← List.drop_eq_getElem_cons hi, List.take_append_drop]
  obtain ⟨a, ha⟩ : ∃ a, a = l[i] := ⟨_, rfl⟩
  rw [← ha] at hl ⊢
  rw [hl] at hn
  rw [List.nodup_append] at hn
  obtain ⟨h1, h2, h3⟩ := hn
  rw [List.nodup_cons] at h2
  conv => rhs; rw [hl]
  rw [List.filter_append, List.filter_cons]
  simp only [ne_eq, not_true_eq_false, decide_false, Bool.false_eq_true, if_false]
  congr 1
  · exact (List.filter_eq_self.2 (fun z hz => by
      have := h3 z hz a (by simp)
      simpa using this)).symm
  · exact (List.filter_eq_self.2 (fun z hz => by
      have : z ≠ a := by rintro rfl; exact h2.1 hz
      simpa using this)).symm

def QYoung (q r fb g p pm ns : Nat) (sh : Nat → Nat) (A : QSt) (age : List Nat) (a kept lost ga gc : Nat) (ea : Option Addr) (ec : Nat) (x y : World) : Prop :=
  ∃ f', QAt y q r fb g p pm ns sh A (youngL age a) true kept lost f' ga gc ea ec ∧ Keep [q, ga] x y

set_option maxHeartbeats 4000000 in
theorem young_at {x : World} {q r fb g p pm ns : Nat} {sh : Nat → Nat} {A : QSt} {age : List Nat} {use : Bool} {kept lost : Nat} {f : Nat → Value} {ga gc : Nat} {ea : Option Addr} {ec : Nat} (h : QAt x q r fb g p pm ns sh A age use kept lost f ga gc ea ec) {i : Nat} (hi : i < age.length) :
    Calls Try.prog 61 #[.pointer (some ⟨q, 0, none⟩), .int .i64 (age[i] : Nat)] x fun e y => (∃ v, e = .returned v) ∧ QYoung q r fb g p pm ns sh A age age[i] kept lost ga gc ea ec x y := by
  have HQ := Lib.hid h
  obtain ⟨-, -, -, c0, c1, -⟩ := h.cells
  obtain ⟨h1, h2, h3, cur, hcur⟩ := h.ageCell
  have hln := h.len
  rw [← hln] at c0 h1
  obtain ⟨j0, hj0, hy0, hy1, hy2⟩ := info_parts info_int'
  have h8 : age.length ≤ 8 := by have := h.len; have := h.ns8; omega
  have hz : ∀ j, j < (age.map fun k : Nat => (k : Int)).length → x.cell? ⟨ga, 0 + j, none⟩ = some (.int .i64 ((age.map fun k : Nat => (k : Int)).getD j 0)) := fun j hj => by
    have hj' : j < age.length := by simpa using hj
    rw [show 0 + j = j by omega, h3 j hj', List.getD_eq_getElem?_getD, List.getElem?_map, List.getElem?_eq_getElem hj']
    rfl
  have C1 := Try.slices_Index_int ga 0 age.length gc (age.map fun k : Nat => (k : Int)) (age[i] : Nat) x (by simp) (by omega) hz
  have hix : Lib.idxOf ((age.map fun k : Nat => (k : Int)).take age.length) (age[i] : Nat) = (i : Int) := Lib.idxOf_hit _ _ _ _ hi (by simp) (by
      rw [List.getD_eq_getElem?_getD, List.getElem?_map, List.getElem?_eq_getElem hi]; rfl) (fun j hj q => by
      rw [List.getD_eq_getElem?_getD, List.getElem?_map, List.getElem?_eq_getElem (by omega)] at q
      have q' : age[j] = age[i] := by
        have : ((age[j] : Nat) : Int) = (age[i] : Nat) := q
        omega
      have := nodup_inj h.nd (by omega) hi q'
      omega)
  rw [hix] at C1
  replace C1 := C1.mono (R' := fun e w' => e = .returned (.int .i64 (i : Int)) ∧ x = w') (fun e w' h => ⟨h.1, h.2.symm⟩)
  have hqg : ga ≠ q := fun hh => h.apart.1 (by simp [qNb, hh])
  have C2 : Hid (Calls Try.prog 86 #[.slice (some ⟨ga, 0, none⟩) age.length gc, .int .i64 i, .int .i64 ((i : Int) + 1)] x fun e w' => e = .returned (.slice (some ⟨ga, 0, none⟩) (age.length - 1) gc) ∧ Hid (w'.ownsRow 0 3 1 (.slice (some ⟨ga, 0, none⟩) (age.length - 1) gc) (age.length - 1) ((age.filter fun z => decide (z ≠ age[i])).map fun k => .int .i64 (k : Nat)) ∧ Keep [ga] x w')) := Lib.hid (by
    have hx := Keep.refl [] x
    have hr : x.ownsRow 0 3 1 (.slice (some ⟨ga, 0, none⟩) age.length gc) age.length (age.map fun k => .int .i64 (k : Nat)) := by have := h.row; rwa [← hln] at this
    have := Try.slices_Delete_int_cells ga 0 age.length gc i (i + 1) (age.map fun k : Nat => (k : Int)) x (by simp) h1 (by unfold maxLen at h2; omega) (by omega) (by omega) (fun j hj => hx.cell (hz j hj) (by simp)) (fun j hj => frozen_of (hx.heap hcur (by simp)) _)
    have e1 : age.length - (i + 1 - i) = age.length - 1 := by omega
    rw [e1] at this
    refine this.mono ?_
    rintro e w' ⟨rfl, dd, rfl⟩
    refine ⟨rfl, Lib.hid ⟨?_, ?_⟩⟩
    · have hr2 := own_keep hr ((Keep.refl [] x).drewN dd) (fun _ _ => by simp)
      have hlen : (((((age.map fun k : Nat => (k : Int)).take age.length).take i ++ ((age.map fun k : Nat => (k : Int)).take age.length).drop (i + 1) ++ List.replicate (i + 1 - i) 0).map (Value.int .i64))).length = age.length := by simp; omega
      have := own_sets hr2 _ hlen (m := age.length - 1) (by omega)
      refine Eq.mp (congrArg (fun z => World.ownsRow _ 0 3 1 _ _ z) ?_) this
      rw [← filter_split h.nd hi]
      have e2 : (age.map fun k : Nat => (k : Int)).take age.length = age.map fun k : Nat => (k : Int) := List.take_of_length_le (by simp)
      rw [e2, List.map_append, List.map_append, List.map_append, ← List.map_take, ← List.map_drop, List.map_map, List.map_map]
      rw [List.take_append_of_le_length (by simp; omega), List.take_of_length_le (by simp; omega)]
      rfl
    · exact (hx.weaken (by simp)).trans (keepSets (.inl (by simp)) _ _ _ ((Keep.refl [ga] _).drewN dd)))
  obtain ⟨n, hn⟩ : ∃ n, n = age.length := ⟨_, rfl⟩
  have hkl : (age.filter fun z => decide (z ≠ age[i])).length = n - 1 := by
    have := youngL_len h.nd (List.getElem_mem hi)
    unfold youngL at this
    rw [List.length_append] at this
    simp only [List.length_singleton] at this
    omega
  have hlt := lt_of_heap hcur
  obtain ⟨a, ha⟩ : ∃ a, a = age[i] := ⟨_, rfl⟩
  rw [← ha, ← hn] at C1 C2
  rw [← ha]
  rw [← ha] at hkl
  rw [← hn] at c0
  obtain ⟨L, hL⟩ : ∃ L, L = age.filter fun z => decide (z ≠ a) := ⟨_, rfl⟩
  rw [← hL] at C2 hkl
  have HL : Hid (youngL age a = L ++ [a]) := Lib.hid (by rw [hL]; rfl)
  have w1 : IntKind.i64.wrap ((i : Int) + 1) = (i : Int) + 1 := IntWalk.i64_in _ (by omega)
  have hn1 : n - 1 + 1 = n := by omega
  have HN : Hid (n = age.length ∧ a ∈ age) := Lib.hid ⟨hn, by rw [ha]; exact List.getElem_mem hi⟩
  have hn8 : n ≤ 8 := by omega
  have hng : n ≤ gc := by omega
  have HAP : Hid (∀ (w2 : World) w3, w2.ownsRow 0 3 1 (.slice (some ⟨ga, 0, none⟩) (n - 1) gc) (n - 1) (L.map fun k => .int .i64 (k : Nat)) → Keep [ga] x w2 → w3.ownsRow 0 3 1 (.slice (some ⟨ga, 0, none⟩) (n - 1 + 1) gc) (n - 1 + 1) (L.map (fun k => .int .i64 (k : Nat)) ++ [.int .i64 a]) → (w2.alloc (.cells #[.int .i64 a] 3)).grownBy w3 (some ga) → (w3.cell? ⟨q, 43, none⟩ = some (.slice (some ⟨ga, 0, none⟩) n gc) ∧ w3.cell? ⟨q, 44, none⟩ = some (.bool use) ∧ w3.frozen? ⟨q, 43, none⟩ = false ∧ w3.frozen? ⟨q, 44, none⟩ = false) ∧ QYoung q r fb g p pm ns sh A age a kept lost ga gc ea ec x ((w3.setCell ⟨q, 43, none⟩ (.slice (some ⟨ga, 0, none⟩) (n - 1 + 1) gc)).setCell ⟨q, 44, none⟩ (.bool true))) := Lib.hid (fun w2 w3 h2r hk2 ho hgr => by
    rw [hn1] at ho ⊢
    obtain ⟨l, hl1, hkl'⟩ := grown_keepTo hgr
    have hk3 : Keep [ga] x w3 := hk2.trans (((Keep.refl [ga] w2).alloc _).trans (hkl'.weaken (fun k hk _ => by have := hl1 k hk; cases this; simp)))
    have hqn : q ∉ [ga] := by simpa using fun hh : q = ga => hqg hh.symm
    have ha3 := ArrAt.keep HQ.out.arr hk3 hqn
    refine ⟨⟨hk3.cell c0 hqn, hk3.cell c1 hqn, ArrAt.frozen ha3 43, ArrAt.frozen ha3 44⟩, ?_⟩
    have hks : Keep [q] w3 ((w3.setCell ⟨q, 43, none⟩ (.slice (some ⟨ga, 0, none⟩) n gc)).setCell ⟨q, 44, none⟩ (.bool true)) := keepSet (keepSet (Keep.refl _ _) (by simp) _ _) (by simp) _ _
    have hq2 := HQ.out.ltb q (by simp [qNb])
    have hsz := hk2.size
    have hK : Keep [q, ga] x ((w3.setCell ⟨q, 43, none⟩ (.slice (some ⟨ga, 0, none⟩) n gc)).setCell ⟨q, 44, none⟩ (.bool true)) := (hk3.weaken (by simp)).trans (hks.weaken (by simp))
    have hea : ∀ b o, ea = some ⟨b, o, none⟩ → b ∉ [q, ga] := fun b o hb hm => by
      simp only [List.mem_cons, List.not_mem_nil, or_false] at hm
      rcases hm with rfl | rfl
      · rcases HQ.out.up.row with h3 | ⟨b', o', h3, h4, h5⟩
        · cases h3
        · rw [hb] at h3; cases h3; exact h4 (by simp [qNb])
      · exact HQ.out.apart.2 o hb
    have h5 : ∀ k, k < 8 → ∀ j, j < 5 → fset (fset f 43 (.slice (some ⟨ga, 0, none⟩) n gc)) 44 (.bool true) (3 + k * 5 + j) = f (3 + k * 5 + j) := fun k hk j hj => by rw [fset_ne (by omega), fset_ne (by omega)]
    refine ⟨fset (fset f 43 (.slice (some ⟨ga, 0, none⟩) n gc)) 44 (.bool true), ⟨ArrAt.set (ArrAt.set ha3 _ _) _ _, ?_, ?_, ?_, fun k hk => ?_, fun k hk => ?_, fun k hk => ?_, fun k hk => ?_, fun k hk => ?_, ?_, ?_, ?_, ?_, ?_, ?_, ⟨HQ.out.up.le, HQ.out.up.lt, ?_⟩, youngL_nd HQ.out.nd a, fun k hk => HQ.out.lt k ((youngL_mem HN.out.2 k).1 hk), by rw [youngL_len HQ.out.nd HN.out.2, HQ.out.len], HQ.out.ns8, HQ.out.free, HQ.out.apart, fun k hk => Nat.lt_of_lt_of_le (HQ.out.ltb k hk) hK.size⟩, hK⟩
    · rw [fset_ne (by omega), fset_ne (by omega), HQ.out.v0]
    · rw [fset_ne (by omega), fset_ne (by omega), HQ.out.v1]
    · rw [fset_ne (by omega), fset_ne (by omega), HQ.out.v2]
    · rw [fset_ne (by omega), fset_ne (by omega), HQ.out.vs k hk]
    · rw [h5 k hk 1 (by omega), HQ.out.vt k hk]
    · rw [h5 k hk 2 (by omega), HQ.out.vu k hk]
    · rw [h5 k hk 3 (by omega), HQ.out.vp k hk]
    · rw [h5 k hk 4 (by omega), HQ.out.vr k hk]
    · rw [fset_ne (by omega), fset_same, HN.out.1, HQ.out.len]
    · exact fset_same
    · rw [fset_ne (by omega), fset_ne (by omega), HQ.out.vup]
    · rw [fset_ne (by omega), fset_ne (by omega), HQ.out.vk]
    · rw [fset_ne (by omega), fset_ne (by omega), HQ.out.vl]
    · have hh : ns = n := by rw [HN.out.1, HQ.out.len]
      rw [hh, HL.out, List.map_append]
      exact own_keep ho hks (fun b hb => by cases hb; simpa using hqg)
    · rcases HQ.out.up.row with h3 | ⟨b, o, h3, h4, h5⟩
      · exact .inl h3
      · exact .inr ⟨b, o, h3, h4, fun j hj => hK.cell (h5 j hj) (hea b o h3)⟩)
  clear h h1 h2 h3 hz hix hcur hi h8 ha hL hn
  go_enter Try.func61, Try.ntmps61
  go_wp2_with fail
  refine C1.mono ?_
  rintro e w' ⟨rfl, rfl⟩
  clear C1
  go_wp2_with fail
  refine C2.out.mono ?_
  rintro e w2 ⟨rfl, HD⟩
  have hrow := HD.out.1
  have HAP2 := Lib.hid (fun w3 => HAP.out w2 w3 HD.out.1 HD.out.2)
  clear C2 c0 c1 hkl hqg hlt HD HAP
  go_wp2_with (at_builtin; refine wpList_append_own_spare _ rfl _ _ 81 rfl 0 3 j0 1 Try.underlying81 hj0 hy1 ga (n - 1) gc _ rfl (hrow.alloc _) ⟨w2.heap.size, 0, none⟩ 1 1 [.int .i64 a] rfl rfl (cell_one_new _ _ _) (by simp [Value.oneCell']) (by omega) ?_; intro w3 hown' hgrow; have HG := HAP2.out w3 hown' hgrow; obtain ⟨⟨e0, e1, g0, g1⟩, HG⟩ := HG; have HG := Lib.hid HG; clear hown' hgrow)
  go_end0
  exact ⟨⟨_, rfl⟩, by have := HG.out; rwa [hn1] at this⟩
end Go.Proofs.Ytpinoejckagjbaa

/- The document's spaces: how many frames are left. -/
namespace Go.Proofs.Ytpinoejckagjbaa
open Go.RowKit Go.Mum
set_option linter.unusedVariables false
set_option linter.unusedSimpArgs false
set_option maxRecDepth 100000

def updN {α : Type} (f : Nat → α) (a : Nat) (v : α) : Nat → α := fun k => if k = a then v else f k
theorem updN_same {α : Type} {f : Nat → α} {a : Nat} {v : α} : updN f a v a = v := if_pos rfl
theorem updN_ne {α : Type} {f : Nat → α} {a k : Nat} {v : α} (h : k ≠ a) : updN f a v k = f k := if_neg h

/-- One space's shadow is another. -/
def RSt.put (R : RSt) (a : Nat) (P : List Pg) (S : List Nat) (pv tv : Value) (mf : Int) : RSt := { R with P := updN R.P a P, S := updN R.S a S, pv := updN R.pv a pv, tv := updN R.tv a tv, mf := updN R.mf a mf }

theorem spC_ne {R : RSt} {a k : Nat} {P : List Pg} {S : List Nat} {pv tv : Value} {mf : Int} (h : k ≠ a) : spC (R.put a P S pv tv mf) k = spC R k := by
  unfold spC RSt.put
  simp only [updN_ne h]

theorem spC_same {R : RSt} {a : Nat} {P : List Pg} {S : List Nat} {pv tv : Value} {mf : Int} : spC (R.put a P S pv tv mf) a = [.bool (R.tk a), .int .u32 (R.kp a : Nat), .int .u32 (R.kr a : Nat), .bool (R.ur a), .int .i64 60, pv, tv, .int .i64 mf] := by
  unfold spC RSt.put
  simp only [updN_same]

theorem spL_at (R : RSt) (age : List Nat) {i j : Nat} (hi : i < age.length) (hj : j < 8) : (spL R age).getD (i * 8 + j) undef = (spC R age[i]).getD j undef := by
  rw [List.getD_eq_getElem?_getD, List.getD_eq_getElem?_getD, spL_get R age i hi j hj]

section
variable {x y : World} {B rb most : Nat} {R : RSt} {age : List Nat} {use : Bool} {ga ca : Nat} {hv : Value} {c : Nat}

theorem RcAt.back (h : RcAt x B rb most R age use ga ca hv c) {i : Nat} (hi : i < age.length) {f f' : Nat → Value} (hf : ∀ j, j < age.length * 8 → f j = (spL R age).getD j undef) (hca : age.length ≤ ca) (hmx : ca ≤ maxLen)
    {mf' : Int} {P' : List Pg} {S' : List Nat} {pv' tv' : Value} (hS : RSI y B ga (i * 8 + 4) 145 (ca * 8) f' mf' P' S' pv' tv') (hf' : ∀ j, j ≠ i * 8 + 5 → j ≠ i * 8 + 6 → j ≠ i * 8 + 7 → f' j = f j)
    (hK : KeepTo (fun k => k = ga ∨ (R.tv age[i]).ownBlock = some k) x y) (fp : ∀ g, pv'.ownBlock = some g → (R.pv age[i]).ownBlock = some g ∨ x.heap.size ≤ g) (ft : ∀ g, tv'.ownBlock = some g → (R.tv age[i]).ownBlock = some g ∨ x.heap.size ≤ g)
    {c' : Nat} (hc : c ≤ c') (hpl : P'.length ≤ c') (hsl : S'.length ≤ c') : RcAt y B rb most (R.put age[i] P' S' pv' tv' mf') age use ga ca hv c' := by
  obtain ⟨l, hl, hk⟩ := hK
  have hmem := List.getElem_mem hi
  obtain ⟨cg, hcg⟩ := own_type h.all (g := ga) rfl
  have hgaB := (own_block h.all (g := ga) rfl).1
  have nl : ∀ {g : Nat} {cu : Array Value} {e : TypeId}, x.heap[g]? = some (.cells cu e (0, 0)) → e ≠ 145 → e ≠ 22 → g ∉ l := fun {g cu e} hg h1 h2 q => by
    rcases hl g q with rfl | ht
    · exact type_ne hg hcg h1 rfl
    · obtain ⟨ct, hct⟩ := own_type (h.trow _ hmem) ht
      exact type_ne hg hct h2 rfl
  have hsp : ∀ i', (hi' : i' < age.length) → ∀ j, j < 8 → f' (i' * 8 + j) = (spC (R.put age[i] P' S' pv' tv' mf') age[i']).getD j undef := fun i' hi' j hj => by
    by_cases he : i' = i
    · subst he
      rw [spC_same]
      rcases (by omega : j = 0 ∨ j = 1 ∨ j = 2 ∨ j = 3 ∨ j = 4 ∨ j = 5 ∨ j = 6 ∨ j = 7) with rfl | rfl | rfl | rfl | rfl | rfl | rfl | rfl
      · rw [hf' _ (by omega) (by omega) (by omega), hf _ (by omega), spL_at R age hi (by omega)]; rfl
      · rw [hf' _ (by omega) (by omega) (by omega), hf _ (by omega), spL_at R age hi (by omega)]; rfl
      · rw [hf' _ (by omega) (by omega) (by omega), hf _ (by omega), spL_at R age hi (by omega)]; rfl
      · rw [hf' _ (by omega) (by omega) (by omega), hf _ (by omega), spL_at R age hi (by omega)]; rfl
      · exact hS.v0
      · exact hS.v1
      · exact hS.v2
      · exact hS.v3
    · rw [hf' _ (by omega) (by omega) (by omega), hf _ (by omega), spL_at R age hi' hj, spC_ne (fun q => he (nodup_inj h.nd hi' hi q))]
  have hall : y.ownsRow B 145 8 (.slice (some ⟨ga, 0, none⟩) age.length ca) age.length (spL (R.put age[i] P' S' pv' tv' mf') age) := own_of_arr hS.arr hgaB hca hmx (spL_len _ _) (fun j hj => by
    have := hsp (j / 8) (by omega) (j % 8) (by omega)
    rw [← spL_at _ age (by omega) (by omega), show j / 8 * 8 + j % 8 = j by omega] at this
    exact this)
  have hrows : ∀ k ∈ age, k ≠ age[i] → y.ownsRow B 65 3 (R.pv k) (R.P k).length (pgL (R.P k)) ∧ y.ownsRow B 22 1 (R.tv k) (R.S k).length ((R.S k).map fun z => .int .u32 (z : Nat)) := fun k hkm hka => by
    refine ⟨own_keep (h.prow k hkm) hk (fun g hg => ?_), own_keep (h.trow k hkm) hk (fun g hg q => ?_)⟩
    · obtain ⟨cu, hcu⟩ := own_type (h.prow k hkm) hg
      exact nl hcu (by decide) (by decide)
    · rcases hl g q with rfl | ht
      · obtain ⟨cu, hcu⟩ := own_type (h.trow k hkm) hg
        exact type_ne hcu hcg (by decide) rfl
      · exact h.td k hkm _ hmem hka g hg ht
  refine ⟨hk.heap h.head (nl h.head (by decide) (by decide)), h.rbB, hall, own_keep h.home hk (fun g hg => ?_), h.nd, fun k hkm => ?_, fun k hkm => ?_, fun k hkm j hjm hne g hg => ?_, fun k hkm j hjm hne g hg => ?_, fun k hkm => ?_, fun k hkm => ?_, h.al⟩
  · obtain ⟨cu, hcu⟩ := own_type h.home hg
    exact nl hcu (by decide) (by decide)
  · by_cases hka : k = age[i]
    · subst hka
      show y.ownsRow B 65 3 (updN R.pv age[i] pv' age[i]) (updN R.P age[i] P' age[i]).length (pgL (updN R.P age[i] P' age[i]))
      rw [updN_same, updN_same]; exact hS.prow
    · show y.ownsRow B 65 3 (updN R.pv age[i] pv' k) (updN R.P age[i] P' k).length (pgL (updN R.P age[i] P' k))
      rw [updN_ne hka, updN_ne hka]; exact (hrows k hkm hka).1
  · by_cases hka : k = age[i]
    · subst hka
      show y.ownsRow B 22 1 (updN R.tv age[i] tv' age[i]) (updN R.S age[i] S' age[i]).length ((updN R.S age[i] S' age[i]).map fun z => .int .u32 (z : Nat))
      rw [updN_same, updN_same]; exact hS.trow
    · show y.ownsRow B 22 1 (updN R.tv age[i] tv' k) (updN R.S age[i] S' k).length ((updN R.S age[i] S' k).map fun z => .int .u32 (z : Nat))
      rw [updN_ne hka, updN_ne hka]; exact (hrows k hkm hka).2
  · change (updN R.pv age[i] pv' k).ownBlock = some g at hg
    show (updN R.pv age[i] pv' j).ownBlock ≠ some g
    by_cases hka : k = age[i]
    · rw [hka, updN_same] at hg
      rw [updN_ne (fun q => hne (by rw [hka, q]))]
      intro hjg
      rcases fp g hg with h1 | h1
      · exact h.pd _ hmem j hjm (fun q => hne (by rw [hka, q])) g h1 hjg
      · have := (own_block (h.prow j hjm) hjg).2; omega
    · rw [updN_ne hka] at hg
      by_cases hja : j = age[i]
      · rw [hja, updN_same]
        intro hjg
        rcases fp g hjg with h1 | h1
        · exact h.pd k hkm _ hmem hka g hg h1
        · have := (own_block (h.prow k hkm) hg).2; omega
      · rw [updN_ne hja]; exact h.pd k hkm j hjm hne g hg
  · change (updN R.tv age[i] tv' k).ownBlock = some g at hg
    show (updN R.tv age[i] tv' j).ownBlock ≠ some g
    by_cases hka : k = age[i]
    · rw [hka, updN_same] at hg
      rw [updN_ne (fun q => hne (by rw [hka, q]))]
      intro hjg
      rcases ft g hg with h1 | h1
      · exact h.td _ hmem j hjm (fun q => hne (by rw [hka, q])) g h1 hjg
      · have := (own_block (h.trow j hjm) hjg).2; omega
    · rw [updN_ne hka] at hg
      by_cases hja : j = age[i]
      · rw [hja, updN_same]
        intro hjg
        rcases ft g hjg with h1 | h1
        · exact h.td k hkm _ hmem hka g hg h1
        · have := (own_block (h.trow k hkm) hg).2; omega
      · rw [updN_ne hja]; exact h.td k hkm j hjm hne g hg
  · show (updN R.P age[i] P' k).length ≤ c'
    by_cases hka : k = age[i]
    · rw [hka, updN_same]; exact hpl
    · rw [updN_ne hka]; exact Nat.le_trans (h.pl k hkm) hc
  · show (updN R.S age[i] S' k).length ≤ c'
    by_cases hka : k = age[i]
    · rw [hka, updN_same]; exact hsl
    · rw [updN_ne hka]; exact Nat.le_trans (h.sl k hkm) hc
end

/-- How many tables there are. -/
def totS (R : RSt) (age : List Nat) : Nat := (age.map fun k => (R.S k).length).sum

theorem totS_snoc (R : RSt) (l : List Nat) (k : Nat) : totS R (l ++ [k]) = totS R l + (R.S k).length := by simp [totS]

theorem totS_le (R : RSt) {c : Nat} : ∀ (l : List Nat), (∀ k ∈ l, (R.S k).length ≤ c) → totS R l ≤ l.length * c
  | [], _ => by simp [totS]
  | k :: l, h => by
    have := totS_le R l (fun j hj => h j (by simp [hj]))
    have h1 := h k (by simp)
    show ((k :: l).map fun k => (R.S k).length).sum ≤ _
    rw [List.map_cons, List.sum_cons, List.length_cons, Nat.succ_mul]
    unfold totS at this
    omega

set_option maxHeartbeats 2000000 in
theorem rfleft_at {x : World} {B rb most : Nat} {R : RSt} {age : List Nat} {use : Bool} {ga ca : Nat} {hv : Value} {c : Nat} (h : RcAt x B rb most R age use ga ca hv c) (hc : c ≤ 100000) (hm : most ≤ 1000) :
    Calls Try.prog 74 #[.pointer (some ⟨rb, 0, none⟩)] x fun e y => e = .returned (.int .i64 ((most : Int) - (totS R age : Nat))) ∧ x = y := by
  have HR := Lib.hid h
  obtain ⟨c0, c1, c2, c3, c4⟩ := h.cells
  have hal := h.al
  clear h
  go_enter Try.func74, Try.ntmps74
  go_wp2_with fail
  go_loopw [3, 4] (fun nv kv wr => ∃ (k : Nat) (z : Int), nv = .int .i64 z ∧ kv = .int .i64 k ∧ k ≤ age.length ∧ Hid (z = (most : Int) - (totS R (age.take k) : Nat)) ∧ x = wr) (fun _ kv _ => age.length - (intOf kv).toNat)
  case atStart => exact ⟨0, most, rfl, rfl, by omega, Lib.hid (by simp [totS]), rfl⟩
  case round =>
    obtain ⟨k, z, rfl, rfl, hk1, HZ, rfl⟩ := hrel
    by_cases hkl : k < age.length
    · have hk0 : (0 : Int) ≤ (k : Int) := by omega
      have hk3 : (k : Int) < (age.length : Int) := by omega
      have hmem := List.getElem_mem hkl
      obtain ⟨ta, tc, htv⟩ := own_form (HR.out.trow _ hmem)
      have hq6 := HR.out.cell hkl (j := 6) (by omega)
      have hsl := HR.out.sl _ hmem
      have HN : Hid (z - ((R.S age[k]).length : Nat) = (most : Int) - (totS R (age.take (k + 1)) : Nat)) := Lib.hid (by
        rw [HZ.out, List.take_add_one, List.getElem?_eq_getElem hkl]
        show _ = (most : Int) - ((totS R (age.take k ++ [age[k]]) : Nat) : Int)
        rw [totS_snoc]; omega)
      have hzb : totS R (age.take k) ≤ 8 * c := Nat.le_trans (totS_le R (c := c) _ (fun j hj => HR.out.sl j (List.mem_of_mem_take hj))) (Nat.mul_le_mul_right _ (by rw [List.length_take]; omega))
      have hz1 := HZ.out
      generalize age[k] = ak at hq6 htv hsl HN
      replace hq6 : x.cell? ⟨ga, k * 8 + 6, none⟩ = some (.slice ta (R.S ak).length tc) := by rw [← htv]; exact hq6
      generalize (R.S ak).length = n6 at hq6 hsl HN
      have hw : IntKind.i64.wrap (z - (n6 : Int)) = z - (n6 : Int) := IntWalk.i64_in _ (by omega)
      have hq6' : x.cell? ⟨ga, k * 8 + (4 + 2), none⟩ = some (.slice ta n6 tc) := hq6
      have hq6'' : x.cell? ⟨ga, k * 8 + 4 + 2, none⟩ = some (.slice ta n6 tc) := hq6
      clear htv hzb hz1 hmem
      go_wp2_with fail
      go_roundw
      case rel => exact ⟨k + 1, z - (n6 : Int), rfl, by go_num, by omega, HN, trivial⟩
      case measure => simp [intOf]; omega
    · have hk3 : ¬ ((k : Int) < (age.length : Int)) := by omega
      have HE : Hid (z = (most : Int) - (totS R age : Nat)) := Lib.hid (by have := HZ.out; rwa [List.take_of_length_le (by omega)] at this)
      clear hk1 hkl
      go_wp2_with fail
      go_ret
      exact ⟨by rw [HE.out]; rfl, rfl⟩
end Go.Proofs.Ytpinoejckagjbaa
