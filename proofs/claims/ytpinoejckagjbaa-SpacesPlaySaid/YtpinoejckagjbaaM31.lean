/- Contracts of the functions that the law reaches, walked, and the plain laws on them (several texts in one). -/
import Derived.Outline
import Derived.Test.YtpinoejckagjbaaM30

/- The document's spaces: one is the youngest. -/
namespace Go.Proofs.Ytpinoejckagjbaa
open Go.RowKit Go.Mum
set_option linter.unusedVariables false
set_option linter.unusedSimpArgs false
set_option maxRecDepth 100000

theorem grow_keep {x w w1 : World} {o : Obj} {e : TypeId} {sz n B : Nat} {lv : Value} {xs : List Value} (hB : x.heap.size ≤ B) (hk : Keep [] x w) (hrow : w.ownsRow B e sz lv n xs) (hgr : (w.alloc o).grownBy w1 lv.ownBlock) : Keep [] x w1 := by
  refine ⟨hgr.os.trans hk.os, hgr.tape.trans hk.tape, hgr.output.trans hk.output, Nat.le_trans hk.size (Nat.le_trans (by simp) hgr.size), fun b hb _ => ?_⟩
  have h1 := hgr.block b (by have := hk.size; simp; omega) (by
    intro hh
    have := own_block hrow hh.symm
    omega)
  rw [h1, Below.heap_alloc _ _ _ (by have := hk.size; omega)]
  exact hk.block b hb (by simp)

theorem grow_other {w w1 : World} {o : Obj} {e2 : TypeId} {s2 n2 B2 : Nat} {lv v2 : Value} {x2 : List Value} (h2 : w.ownsRow B2 e2 s2 v2 n2 x2) (hne : ∀ g, v2.ownBlock = some g → lv.ownBlock ≠ some g) (hgr : (w.alloc o).grownBy w1 lv.ownBlock) : w1.ownsRow B2 e2 s2 v2 n2 x2 :=
  (h2.alloc _).kept hgr (by
    cases hpo : v2.ownBlock with
    | none => exact .inl rfl
    | some g => exact .inr (fun hh => hne g hpo hh.symm))

theorem cells_eight_new (w : World) (a b c d e f g h : Value) (t : TypeId) : ∀ j u, [a, b, c, d, e, f, g, h][j]? = some u → (w.alloc (.cells #[a, b, c, d, e, f, g, h] t)).cell? ((⟨w.heap.size, 0, none⟩ : Addr).add j) = some u := by
  intro j u hj
  have hadd : (⟨w.heap.size, 0, none⟩ : Addr).add j = ⟨w.heap.size, j, none⟩ := by unfold Addr.add; split <;> simp_all
  rw [hadd]
  exact cell_of (heap_alloc_same w _) j (by simpa using hj)

theorem info_space : (Try.prog.info? 145).map (fun i => (i.zero, i.size, i.bytes)) = some (some (.agg #[.bool false, .int .u32 0, .int .u32 0, .bool false, .int .i64 0, .slice none 0 0, .slice none 0 0, .int .i64 0]), 8, 80) := by kernel_rfl
theorem info_int' : (Try.prog.info? 3).map (fun i => (i.zero, i.size, i.bytes)) = some (some (.int .i64 0), 1, 8) := by kernel_rfl

theorem nodup_inj {l : List Nat} (h : l.Nodup) {i j : Nat} (hi : i < l.length) (hj : j < l.length) (he : l[i] = l[j]) : i = j := by
  have h' := List.pairwise_iff_getElem.1 h
  rcases Nat.lt_trichotomy i j with q | q | q
  · exact absurd he (h' i j hi hj q)
  · exact q
  · exact absurd he.symm (h' j i hj hi q)

/-- One becomes the youngest. -/
def youngL (age : List Nat) (a : Nat) : List Nat := age.filter (fun q => decide (q ≠ a)) ++ [a]

theorem youngL_len {age : List Nat} (hn : age.Nodup) {a : Nat} (ha : a ∈ age) : (youngL age a).length = age.length := by
  unfold youngL
  have h1 : (age.erase a).length = age.length - 1 := List.length_erase_of_mem ha
  have h2 : age.filter (fun q => decide (q ≠ a)) = age.erase a := by rw [hn.erase_eq_filter]; congr 1; funext q; simp [bne, BEq.beq, decide_not]
  rw [List.length_append, h2, h1]
  have := List.length_pos_of_mem ha
  simp; omega

theorem youngL_mem {age : List Nat} {a : Nat} (ha : a ∈ age) (k : Nat) : k ∈ youngL age a ↔ k ∈ age := by
  unfold youngL
  rw [List.mem_append, List.mem_filter, List.mem_singleton]
  constructor
  · rintro (⟨h, _⟩ | rfl)
    · exact h
    · exact ha
  · intro h
    by_cases hk : k = a
    · exact .inr hk
    · exact .inl ⟨h, by simpa using hk⟩

theorem youngL_nd {age : List Nat} (hn : age.Nodup) (a : Nat) : (youngL age a).Nodup := by
  unfold youngL
  rw [List.nodup_append]
  refine ⟨List.Nodup.sublist List.filter_sublist hn, by simp, fun x hx y hy => ?_⟩
  have := (List.mem_filter.1 hx).2
  simp at hy this
  rw [hy]; exact this

/-- Blocks of which one list speaks, and what came later. -/
theorem KeepTo.chain {P Q : Nat → Prop} {x y z : World} (h : KeepTo P x y) (h' : KeepTo Q y z) (hq : ∀ k, Q k → P k ∨ x.heap.size ≤ k) : KeepTo P x z := by
  obtain ⟨l, h1, h2⟩ := h
  obtain ⟨m, h3, h4⟩ := h'
  have hk : Keep (l ++ m) x z := (h2.weaken (by intro k hk _; simp [hk])).trans (h4.weaken (by intro k hk _; simp [hk]))
  refine ⟨(l ++ m).filter (fun k => decide (k < x.heap.size)), fun k hk => ?_, hk.weaken (by intro k hk hlt; simp [List.mem_append.1 hk, hlt])⟩
  rw [List.mem_filter] at hk
  have hlt : k < x.heap.size := by simpa using hk.2
  rcases List.mem_append.1 hk.1 with q | q
  · exact h1 k q
  · rcases hq k (h3 k q) with q | q
    · exact q
    · omega

theorem KeepTo.size {P : Nat → Prop} {x y : World} (h : KeepTo P x y) : x.heap.size ≤ y.heap.size := by
  obtain ⟨l, _, h2⟩ := h
  exact h2.size

/-- The blocks in which the document's spaces are written. -/
def RcW (R : RSt) (age : List Nat) (rb ga : Nat) (k : Nat) : Prop := k = rb ∨ k = ga ∨ ∃ j ∈ age, (R.tv j).ownBlock = some k

/-- The lists of tables lie where they lay, or in later blocks. -/
def TvSub (n : Nat) (R : RSt) (age : List Nat) (R' : RSt) (age' : List Nat) : Prop := ∀ j ∈ age', ∀ g, (R'.tv j).ownBlock = some g → (∃ k ∈ age, (R.tv k).ownBlock = some g) ∨ n ≤ g

theorem TvSub.refl (n : Nat) (R : RSt) (age : List Nat) : TvSub n R age R age := fun j hj g hg => .inl ⟨j, hj, hg⟩
theorem TvSub.trans {n n' : Nat} {R R' R2 : RSt} {age age' age2 : List Nat} (h : TvSub n R age R' age') (h' : TvSub n' R' age' R2 age2) (hn : n ≤ n') : TvSub n R age R2 age2 := fun j hj g hg => by
  rcases h' j hj g hg with ⟨k, hk, q⟩ | q
  · exact h k hk g q
  · exact .inr (by omega)
theorem TvSub.w {n : Nat} {R R' : RSt} {age age' : List Nat} (h : TvSub n R age R' age') {rb ga k : Nat} (hk : RcW R' age' rb ga k) : RcW R age rb ga k ∨ n ≤ k := by
  rcases hk with q | q | ⟨j, hj, q⟩
  · exact .inl (.inl q)
  · exact .inl (.inr (.inl q))
  · rcases h j hj k q with ⟨m, hm, q⟩ | q
    · exact .inl (.inr (.inr ⟨m, hm, q⟩))
    · exact .inr q

/-- What the making young leaves. -/
def RfYoung (B rb most : Nat) (R : RSt) (age : List Nat) (a c : Nat) (x y : World) : Prop := ∃ ga' ca' hv', RcAt y B rb most R (youngL age a) true ga' ca' hv' c ∧ Keep [rb] x y ∧ x.heap.size ≤ ga'

set_option maxHeartbeats 4000000 in
theorem rfyoung_at {x : World} {B rb most : Nat} {R : RSt} {age : List Nat} {use : Bool} {ga ca : Nat} {hv : Value} {c : Nat} (h : RcAt x B rb most R age use ga ca hv c) {i : Nat} (hi : i < age.length) :
    Calls Try.prog 71 #[.pointer (some ⟨rb, 0, none⟩), .int .i64 i] x fun e y => (∃ v, e = .returned v) ∧ RfYoung B rb most R age age[i] c x y := by
  have HR := Lib.hid h
  obtain ⟨c0, c1, c2, c3, c4⟩ := h.cells
  have hal := h.al
  obtain ⟨i0, hi0, hz0, hz1, hz2⟩ := info_parts info_space
  obtain ⟨j0, hj0, hy0, hy1, hy2⟩ := info_parts info_int'
  obtain ⟨gh, hc, hhv, -⟩ := h.homeCell hi
  subst hhv
  obtain ⟨a, ha⟩ : ∃ a, a = age[i] := ⟨_, rfl⟩
  rw [← ha]
  have HA := Lib.hid ha
  have hi0' : (0 : Int) ≤ (i : Int) := by omega
  have hi1' : (i : Int) < (age.length : Int) := by omega
  clear h ha c2 c3 c4
  go_enter Try.func71, Try.ntmps71
  go_wp2_with fail
  go_loopw [4, 5, 6] (fun lv0 mv0 kv wr => ∃ (k : Nat) (L : List Nat) (lv mv : Value), lv = lv0 ∧ mv = mv0 ∧ kv = .int .i64 k ∧ k ≤ age.length ∧ L.length ≤ k ∧ Hid (L = (age.take k).filter (fun q => decide (q ≠ a)) ∧ wr.ownsRow x.heap.size 145 8 lv L.length (spL R L) ∧ wr.ownsRow x.heap.size 3 1 mv L.length (L.map fun k => .int .i64 (k : Nat)) ∧ Keep [] x wr)) (fun _ _ kv _ => age.length - (intOf kv).toNat)
  case atStart => exact ⟨0, [], _, _, rfl, rfl, rfl, by omega, by simp, Lib.hid ⟨by simp, World.ownsRow_nil _ _ _ _, World.ownsRow_nil _ _ _ _, Keep.refl _ _⟩⟩
  case round =>
    obtain ⟨k, L, lv, mv, rfl, rfl, rfl, hk1, hL, HJ⟩ := hrel
    rename World => wo
    have hkx := HJ.out.2.2.2
    have e0 := hkx.cell c0 (by simp)
    have e1 := hkx.cell c1 (by simp)
    by_cases hkl : k < age.length
    · have hk0 : (0 : Int) ≤ (k : Int) := by omega
      have hk3 : (k : Int) < (age.length : Int) := by omega
      have HTK : Hid (age.take (k + 1) = age.take k ++ [age[k]]) := Lib.hid (by rw [List.take_add_one, List.getElem?_eq_getElem hkl]; rfl)
      by_cases hki : k = i
      · subst hki
        have HJ2 : Hid (L = (age.take (k + 1)).filter (fun q => decide (q ≠ a)) ∧ wo.ownsRow x.heap.size 145 8 lv L.length (spL R L) ∧ wo.ownsRow x.heap.size 3 1 mv L.length (L.map fun k => .int .i64 (k : Nat)) ∧ Keep [] x wo) := Lib.hid ⟨by
          rw [HTK.out, List.filter_append, ← HJ.out.1, ← HA.out]; simp, HJ.out.2⟩
        clear hkx
        go_wp2_with fail
        go_roundw
        case rel => exact ⟨k + 1, L, _, _, rfl, rfl, by go_num, by omega, by omega, HJ2⟩
        case measure => simp [intOf]; omega
      · have hne : age[k] ≠ a := by
          rw [HA.out]
          intro q
          exact hki (nodup_inj HR.out.nd hkl hi q)
        have hne2 : ((k : Int) == (i : Int)) = false := by rw [beq_eq_false_iff_ne]; omega
        have hne3 : (k == i) = false := by rw [beq_eq_false_iff_ne]; exact hki
        have hR := HR.out.keep0 hkx
        have hq : ∀ j, j < 8 → wo.cell? ⟨ga, k * 8 + j, none⟩ = (spC R age[k])[j]? := fun j hj => hR.cell hkl hj
        obtain ⟨gh2, hc2, hgh, hqh⟩ := hR.homeCell hkl
        cases hgh
        have hq0 := hq 0 (by omega)
        have hq1 := hq 1 (by omega)
        have hq2 := hq 2 (by omega)
        have hq3 := hq 3 (by omega)
        have hq4 := hq 4 (by omega)
        have hq5 := hq 5 (by omega)
        have hq6 := hq 6 (by omega)
        have hq7 := hq 7 (by omega)
        have hmem := List.getElem_mem hkl
        obtain ⟨pa, pc, hpv⟩ := own_form (HR.out.prow _ hmem)
        obtain ⟨ta, tc, htv⟩ := own_form (HR.out.trow _ hmem)
        have hLn : L ++ [age[k]] = (age.take (k + 1)).filter (fun q => decide (q ≠ a)) := by
          rw [HTK.out, List.filter_append, ← HJ.out.1]
          simp [hne]
        have HLN := Lib.hid hLn
        obtain ⟨ak, hak⟩ : ∃ z, z = age[k] := ⟨_, rfl⟩
        have HAK := Lib.hid hak
        rw [← hak] at hq0 hq1 hq2 hq3 hq4 hq5 hq6 hq7 hqh hpv htv HLN
        clear hak
        obtain ⟨v8, hv8⟩ : ∃ v8, v8 = spC R ak := ⟨_, rfl⟩
        have HV8 : Hid (spC R ak = [.bool (R.tk ak), .int .u32 (R.kp ak : Nat), .int .u32 (R.kr ak : Nat), .bool (R.ur ak), .int .i64 60, .slice pa (R.P ak).length pc, .slice ta (R.S ak).length tc, .int .i64 (R.mf ak)]) := Lib.hid (by unfold spC; rw [hpv, htv])
        rw [HV8.out] at hq0 hq1 hq2 hq3 hq4 hq5 hq6 hq7
        clear hv8 v8 hpv htv hLn hmem hne hq
        replace hq0 : wo.cell? ⟨ga, k * 8, none⟩ = some (.bool (R.tk ak)) := hq0
        replace hq1 : wo.cell? ⟨ga, k * 8 + 1, none⟩ = some (.int .u32 (R.kp ak : Nat)) := hq1
        replace hq2 : wo.cell? ⟨ga, k * 8 + 2, none⟩ = some (.int .u32 (R.kr ak : Nat)) := hq2
        replace hq3 : wo.cell? ⟨ga, k * 8 + 3, none⟩ = some (.bool (R.ur ak)) := hq3
        replace hq4 : wo.cell? ⟨ga, k * 8 + 4, none⟩ = some (.int .i64 60) := hq4
        replace hq5 : wo.cell? ⟨ga, k * 8 + 5, none⟩ = some (.slice pa (R.P ak).length pc) := hq5
        replace hq6 : wo.cell? ⟨ga, k * 8 + 6, none⟩ = some (.slice ta (R.S ak).length tc) := hq6
        replace hq7 : wo.cell? ⟨ga, k * 8 + 7, none⟩ = some (.int .i64 (R.mf ak)) := hq7
        generalize R.tk ak = v0 at hq0 HV8
        generalize R.kp ak = v1 at hq1 HV8
        generalize R.kr ak = v2 at hq2 HV8
        generalize R.ur ak = v3 at hq3 HV8
        generalize (R.P ak).length = v5 at hq5 HV8
        generalize (R.S ak).length = v6 at hq6 HV8
        generalize R.mf ak = v7 at hq7 HV8
        have hrow := HJ.out.2.1
        have hxs := hkx.size
        have HAP : Hid (∀ v' w1, w1.ownsRow x.heap.size 145 8 v' (L.length + 1) (spL R L ++ [.bool v0, .int .u32 v1, .int .u32 v2, .bool v3, .int .i64 60, .slice pa v5 pc, .slice ta v6 tc, .int .i64 v7]) → (wo.alloc (.cells #[.bool v0, .int .u32 v1, .int .u32 v2, .bool v3, .int .i64 60, .slice pa v5 pc, .slice ta v6 tc, .int .i64 v7] 145)).grownBy w1 lv.ownBlock → Hid (w1.ownsRow x.heap.size 145 8 v' (L ++ [ak]).length (spL R (L ++ [ak])) ∧ w1.ownsRow x.heap.size 3 1 mv L.length (L.map fun k => .int .i64 (k : Nat)) ∧ Keep [] x w1)) := Lib.hid (fun v' w1 ho hgr => Lib.hid ⟨by
            have : spL R (L ++ [ak]) = spL R L ++ spC R ak := by simp [spL]
            rw [List.length_append, this, HV8.out]; exact ho, grow_other HJ.out.2.2.1 (fun g h1 h2 => own_apart HJ.out.2.2.1 HJ.out.2.1 (by decide) h1 h2) hgr, grow_keep (Nat.le_refl _) hkx hrow hgr⟩)
        clear hkx hR hki
        go_upto_region 7 with (at_builtin; refine wpList_append_own _ rfl _ _ 141 rfl x.heap.size 145 i0 (.agg #[.bool false, .int .u32 0, .int .u32 0, .bool false, .int .i64 0, .slice none 0 0, .slice none 0 0, .int .i64 0]) 8 80 Try.underlying141 hi0 hz0 hz1 hz2 rfl (by decide) _ _ _ rfl (hrow.alloc _) ⟨wo.heap.size, 0, none⟩ 1 1 [.bool v0, .int .u32 v1, .int .u32 v2, .bool v3, .int .i64 60, .slice pa v5 pc, .slice ta v6 tc, .int .i64 v7] rfl rfl (cells_eight_new _ _ _ _ _ _ _ _ _ _) (by simp [Value.oneCell']) (by unfold maxLen; omega) (by omega) (by simp; omega) ?_; intro v' w1 hown' hgrow _; have HG1 := HAP.out _ _ hown' hgrow; clear hown' hgrow)
        rename World => w1
        rename Value => v1'
        have hk1x := HG1.out.2.2
        have e1' := hk1x.cell c1 (by simp)
        have hqh' : w1.cell? ⟨gh, k, none⟩ = some (.int .i64 (ak : Nat)) := by
          obtain ⟨gh3, hc3, hgh3, hq3'⟩ := (HR.out.keep0 hk1x).homeCell hkl
          cases hgh3
          rw [hq3', HAK.out]
        have hrow2 := HG1.out.2.1
        have hxs2 := hk1x.size
        have HAP2 : Hid (∀ v' w2, w2.ownsRow x.heap.size 3 1 v' (L.length + 1) (L.map (fun k => .int .i64 (k : Nat)) ++ [.int .i64 ak]) → (w1.alloc (.cells #[.int .i64 ak] 3)).grownBy w2 mv.ownBlock → Hid ((L ++ [ak]) = (age.take (k + 1)).filter (fun q => decide (q ≠ a)) ∧ w2.ownsRow x.heap.size 145 8 v1' (L ++ [ak]).length (spL R (L ++ [ak])) ∧ w2.ownsRow x.heap.size 3 1 v' (L ++ [ak]).length ((L ++ [ak]).map fun k => .int .i64 (k : Nat)) ∧ Keep [] x w2)) := Lib.hid (fun v' w2 ho hgr => Lib.hid ⟨HLN.out, grow_other HG1.out.1 (fun g h1 h2 => own_apart HG1.out.1 HG1.out.2.1 (by decide) h1 h2) hgr, by rw [List.length_append, List.map_append]; exact ho, grow_keep (Nat.le_refl _) hk1x hrow2 hgr⟩)
        have hLk : (L ++ [ak]).length ≤ k + 1 := by simp; omega
        clear hk1x e0 e1 hq0 hq1 hq2 hq3 hq4 hq5 hq6 hq7 hqh hrow hxs
        go_wp2_with (at_builtin; refine wpList_append_own _ rfl _ _ 81 rfl x.heap.size 3 j0 (.int .i64 0) 1 8 Try.underlying81 hj0 hy0 hy1 hy2 rfl (by decide) _ _ _ rfl (hrow2.alloc _) ⟨w1.heap.size, 0, none⟩ 1 1 [.int .i64 ak] rfl rfl (cell_one_new _ _ _) (by simp [Value.oneCell']) (by unfold maxLen; omega) (by omega) (by simp; omega) ?_; intro v' w2 hown' hgrow _; have HG := HAP2.out _ _ hown' hgrow; clear hown' hgrow)
        go_roundw
        case rel => exact ⟨k + 1, L ++ [ak], _, _, rfl, rfl, by go_num, by omega, hLk, HG⟩
        case measure => simp [intOf]; omega
    · have hk3 : ¬ ((k : Int) < (age.length : Int)) := by omega
      have hR := HR.out.keep0 hkx
      have hq : ∀ j, j < 8 → wo.cell? ⟨ga, i * 8 + j, none⟩ = (spC R age[i])[j]? := fun j hj => hR.cell hi hj
      have hq0 := hq 0 (by omega)
      have hq1 := hq 1 (by omega)
      have hq2 := hq 2 (by omega)
      have hq3 := hq 3 (by omega)
      have hq4 := hq 4 (by omega)
      have hq5 := hq 5 (by omega)
      have hq6 := hq 6 (by omega)
      have hq7 := hq 7 (by omega)
      have hmem := List.getElem_mem hi
      obtain ⟨pa, pc, hpv⟩ := own_form (HR.out.prow _ hmem)
      obtain ⟨ta, tc, htv⟩ := own_form (HR.out.trow _ hmem)
      rw [← HA.out] at hq0 hq1 hq2 hq3 hq4 hq5 hq6 hq7 hpv htv
      have HV8 : Hid (spC R a = [.bool (R.tk a), .int .u32 (R.kp a : Nat), .int .u32 (R.kr a : Nat), .bool (R.ur a), .int .i64 60, .slice pa (R.P a).length pc, .slice ta (R.S a).length tc, .int .i64 (R.mf a)]) := Lib.hid (by unfold spC; rw [hpv, htv])
      rw [HV8.out] at hq0 hq1 hq2 hq3 hq4 hq5 hq6 hq7
      clear hpv htv hmem hq
      replace hq0 : wo.cell? ⟨ga, i * 8, none⟩ = some (.bool (R.tk a)) := hq0
      replace hq1 : wo.cell? ⟨ga, i * 8 + 1, none⟩ = some (.int .u32 (R.kp a : Nat)) := hq1
      replace hq2 : wo.cell? ⟨ga, i * 8 + 2, none⟩ = some (.int .u32 (R.kr a : Nat)) := hq2
      replace hq3 : wo.cell? ⟨ga, i * 8 + 3, none⟩ = some (.bool (R.ur a)) := hq3
      replace hq4 : wo.cell? ⟨ga, i * 8 + 4, none⟩ = some (.int .i64 60) := hq4
      replace hq5 : wo.cell? ⟨ga, i * 8 + 5, none⟩ = some (.slice pa (R.P a).length pc) := hq5
      replace hq6 : wo.cell? ⟨ga, i * 8 + 6, none⟩ = some (.slice ta (R.S a).length tc) := hq6
      replace hq7 : wo.cell? ⟨ga, i * 8 + 7, none⟩ = some (.int .i64 (R.mf a)) := hq7
      generalize R.tk a = v0 at hq0 HV8
      generalize R.kp a = v1 at hq1 HV8
      generalize R.kr a = v2 at hq2 HV8
      generalize R.ur a = v3 at hq3 HV8
      generalize (R.P a).length = v5 at hq5 HV8
      generalize (R.S a).length = v6 at hq6 HV8
      generalize R.mf a = v7 at hq7 HV8
      have hLf : Hid (L ++ [a] = youngL age a) := Lib.hid (by
        have := HJ.out.1
        rw [List.take_of_length_le (by omega)] at this
        rw [this]; rfl)
      have hrow := HJ.out.2.1
      have hxs := hkx.size
      have HAP : Hid (∀ v' w1, w1.ownsRow x.heap.size 145 8 v' (L.length + 1) (spL R L ++ [.bool v0, .int .u32 v1, .int .u32 v2, .bool v3, .int .i64 60, .slice pa v5 pc, .slice ta v6 tc, .int .i64 v7]) → (wo.alloc (.cells #[.bool v0, .int .u32 v1, .int .u32 v2, .bool v3, .int .i64 60, .slice pa v5 pc, .slice ta v6 tc, .int .i64 v7] 145)).grownBy w1 lv.ownBlock → Hid (w1.ownsRow x.heap.size 145 8 v' (L ++ [a]).length (spL R (L ++ [a])) ∧ w1.ownsRow x.heap.size 3 1 mv L.length (L.map fun k => .int .i64 (k : Nat)) ∧ Keep [] x w1)) := Lib.hid (fun v' w1 ho hgr => Lib.hid ⟨by
          have : spL R (L ++ [a]) = spL R L ++ spC R a := by simp [spL]
          rw [List.length_append, this, HV8.out]; exact ho, grow_other HJ.out.2.2.1 (fun g h1 h2 => own_apart HJ.out.2.2.1 HJ.out.2.1 (by decide) h1 h2) hgr, grow_keep (Nat.le_refl _) hkx hrow hgr⟩)
      clear hkx hR
      go_upto_region 9 with (at_builtin; refine wpList_append_own _ rfl _ _ 141 rfl x.heap.size 145 i0 (.agg #[.bool false, .int .u32 0, .int .u32 0, .bool false, .int .i64 0, .slice none 0 0, .slice none 0 0, .int .i64 0]) 8 80 Try.underlying141 hi0 hz0 hz1 hz2 rfl (by decide) _ _ _ rfl (hrow.alloc _) ⟨wo.heap.size, 0, none⟩ 1 1 [.bool v0, .int .u32 v1, .int .u32 v2, .bool v3, .int .i64 60, .slice pa v5 pc, .slice ta v6 tc, .int .i64 v7] rfl rfl (cells_eight_new _ _ _ _ _ _ _ _ _ _) (by simp [Value.oneCell']) (by unfold maxLen; omega) (by omega) (by simp; omega) ?_; intro v' w1 hown' hgrow _; have HG1 := HAP.out _ _ hown' hgrow; clear hown' hgrow)
      rename World => w1
      rename Value => v1'
      have hk1x := HG1.out.2.2
      have e1' := hk1x.cell c1 (by simp)
      have hqh' : w1.cell? ⟨gh, i, none⟩ = some (.int .i64 (a : Nat)) := by
        obtain ⟨gh3, hc3, hgh3, hq3'⟩ := (HR.out.keep0 hk1x).homeCell hi
        cases hgh3
        rw [hq3', HA.out]
      have hrow2 := HG1.out.2.1
      have hxs2 := hk1x.size
      have HAP2 : Hid (∀ v' w2, w2.ownsRow x.heap.size 3 1 v' (L.length + 1) (L.map (fun k => .int .i64 (k : Nat)) ++ [.int .i64 a]) → (w1.alloc (.cells #[.int .i64 a] 3)).grownBy w2 mv.ownBlock → Hid (w2.ownsRow x.heap.size 145 8 v1' (youngL age a).length (spL R (youngL age a)) ∧ w2.ownsRow x.heap.size 3 1 v' (youngL age a).length ((youngL age a).map fun k => .int .i64 (k : Nat)) ∧ Keep [] x w2 ∧ (w2.cell? ⟨rb, 0, none⟩ = some (.slice (some ⟨ga, 0, none⟩) age.length ca) ∧ w2.cell? ⟨rb, 1, none⟩ = some (.slice (some ⟨gh, 0, none⟩) age.length hc) ∧ w2.cell? ⟨rb, 2, none⟩ = some (.bool use) ∧ w2.frozen? ⟨rb, 0, none⟩ = false ∧ w2.frozen? ⟨rb, 1, none⟩ = false ∧ w2.frozen? ⟨rb, 2, none⟩ = false))) := Lib.hid (fun v' w2 ho hgr => by
        have hk2 := grow_keep (Nat.le_refl _) hk1x hrow2 hgr
        have hRF := HR.out.keep0 hk2
        refine Lib.hid ⟨?_, ?_, hk2, hRF.cells.1, hRF.cells.2.1, hRF.cells.2.2.1, frozen_of hRF.head 0, frozen_of hRF.head 1, frozen_of hRF.head 2⟩
        · rw [← hLf.out]; exact grow_other HG1.out.1 (fun g h1 h2 => own_apart HG1.out.1 HG1.out.2.1 (by decide) h1 h2) hgr
        · rw [← hLf.out, List.length_append, List.map_append]; exact ho)
      have HFIN : Hid (∀ (la ma : Option Addr) (lc mc : Nat) wF, wF.ownsRow x.heap.size 145 8 (.slice la (youngL age a).length lc) (youngL age a).length (spL R (youngL age a)) → wF.ownsRow x.heap.size 3 1 (.slice ma (youngL age a).length mc) (youngL age a).length ((youngL age a).map fun k => .int .i64 (k : Nat)) → Keep [] x wF → RfYoung B rb most R age a c x (((wF.setCell ⟨rb, 0, none⟩ (.slice la (youngL age a).length lc)).setCell ⟨rb, 1, none⟩ (.slice ma (youngL age a).length mc)).setCell ⟨rb, 2, none⟩ (.bool true))) := Lib.hid (fun la ma lc mc wF h1 h2 hk => (by
        have hRF := HR.out.keep0 hk
        have hrx : rb < x.heap.size := lt_of_heap HR.out.head
        have ham : a ∈ age := by rw [HA.out]; exact List.getElem_mem hi
        have hyl := youngL_len HR.out.nd ham
        obtain ⟨gn, hgn, _⟩ := own_some h1 (by omega)
        subst hgn
        have hks : Keep [rb] wF (((wF.setCell ⟨rb, 0, none⟩ (.slice (some ⟨gn, 0, none⟩) (youngL age a).length lc)).setCell ⟨rb, 1, none⟩ (.slice ma (youngL age a).length mc)).setCell ⟨rb, 2, none⟩ (.bool true)) := keepSet (keepSet (keepSet (Keep.refl _ _) (by simp) _ _) (by simp) _ _) (by simp) _ _
        have hB : B ≤ x.heap.size := by have := HR.out.rbB; omega
        refine ⟨gn, lc, _, ⟨heap_set_same (heap_set_same (heap_set_same hRF.head 0 _) 1 _) 2 _, hRF.rbB, own_keep (own_base h1 hB) hks (fun g hg => by have := (own_block h1 hg).1; simp; omega), own_keep (own_base h2 hB) hks (fun g hg => by have := (own_block h2 hg).1; simp; omega), youngL_nd hRF.nd a, fun k hkm => ?_, fun k hkm => ?_, fun k hkm j hjm => hRF.pd k ((youngL_mem ham k).1 hkm) j ((youngL_mem ham j).1 hjm), fun k hkm j hjm => hRF.td k ((youngL_mem ham k).1 hkm) j ((youngL_mem ham j).1 hjm), fun k hkm => hRF.pl k ((youngL_mem ham k).1 hkm), fun k hkm => hRF.sl k ((youngL_mem ham k).1 hkm), by rw [hyl]; exact hRF.al⟩, (hk.weaken (by simp)).trans hks, (own_block h1 rfl).1⟩
        · have hp := hRF.prow k ((youngL_mem ham k).1 hkm)
          exact own_keep hp hks (fun g hg => by
            obtain ⟨cu, hcu⟩ := own_type hp hg
            have := type_ne hcu hRF.head (by decide)
            simpa using this)
        · have hp := hRF.trow k ((youngL_mem ham k).1 hkm)
          exact own_keep hp hks (fun g hg => by
            obtain ⟨cu, hcu⟩ := own_type hp hg
            have := type_ne hcu hRF.head (by decide)
            simpa using this)))
      clear hk1x e0 e1 hq0 hq1 hq2 hq3 hq4 hq5 hq6 hq7 hrow hxs c0 c1
      go_upto_region 10 with (at_builtin; refine wpList_append_own _ rfl _ _ 81 rfl x.heap.size 3 j0 (.int .i64 0) 1 8 Try.underlying81 hj0 hy0 hy1 hy2 rfl (by decide) _ _ _ rfl (hrow2.alloc _) ⟨w1.heap.size, 0, none⟩ 1 1 [.int .i64 a] rfl rfl (cell_one_new _ _ _) (by simp [Value.oneCell']) (by unfold maxLen; omega) (by omega) (by simp; omega) ?_; intro v' w2 hown' hgrow _; have HG := HAP2.out _ _ hown' hgrow; clear hown' hgrow)
      rename World => w2
      rename Value => v2'
      obtain ⟨la, lc, rfl⟩ := own_form HG.out.1
      obtain ⟨ma, mc, rfl⟩ := own_form HG.out.2.1
      obtain ⟨s0, s1, s2, g0, g1, g2⟩ := HG.out.2.2.2
      have HF := HFIN.out la ma lc mc w2 HG.out.1 HG.out.2.1 HG.out.2.2.1
      clear e1' hqh'
      go_wp2_with fail
      go_end0
      exact ⟨⟨_, rfl⟩, HF⟩
end Go.Proofs.Ytpinoejckagjbaa
