/- Contracts of the functions that the law reaches, walked, and the plain laws on them (several texts in one). -/
import Derived.Test.YtpinoejckagjbaaM44

/- slices.Sorted over slices.Values, at rows of ints. -/
namespace Go.Proofs.Ytpinoejckagjbaa
open Go.RowKit Go.Mum Go.Shelf
set_option linter.unusedVariables false
set_option linter.unusedSimpArgs false
set_option maxRecDepth 100000

attribute [local go_sem] Oper.semAt_some

theorem values_at (a : Option Addr) (n c : Nat) (w : World) :
    Calls Try.prog 89 #[.slice a n c] w fun e w' => e = .returned (.func (.func 96) #[] #[.pointer (some ⟨w.heap.size, 0, none⟩)]) ∧ w' = w.alloc (.cells #[.slice a n c] 81) := by
  go_enter Try.func89, Try.ntmps89
  go_wp2
  go_ret
  exact ⟨rfl, rfl⟩

set_option maxHeartbeats 2000000 in
theorem vals_in {w : World} {d o cap : Nat} {zs : List Int} (h8 : zs.length ≤ 8) (hdl : d < w.heap.size) (hc : ∀ i (hi : i < zs.length), w.cell? ⟨d, o + i, none⟩ = some (.int .i64 zs[i])) (n Bs : Nat) (w1 : World) (hn : 1 ≤ n) (hB : Below w.heap.size w w1) (hBs : Bs < w1.heap.size) (hbox : Boxed w1 Bs 81 (.slice (some ⟨d, o, none⟩) zs.length cap)) :
    SeqStopsK Fence.wide n Try.prog 96 #[.pointer (some ⟨Bs, 0, none⟩)] (fun x : Int => #[Value.int .i64 x]) (Below w.heap.size) (fun ys => ys = zs) (fun _ => True) 8 w1 := by
  intro l J Jx W hW _ _ hY h0
  have hbW : Boxed W Bs 81 (.slice (some ⟨d, o, none⟩) zs.length cap) := (hW.block Bs hBs).trans hbox
  have hWc : ∀ i (hi : i < zs.length), W.cell? ⟨d, o + i, none⟩ = some (.int .i64 zs[i]) := fun i hi => ((hB.trans (hW.mono hB.size)).cell (p := ⟨d, o + i, none⟩) hdl).trans (hc i hi)
  have HW := Lib.hid hWc
  have HY := Lib.hid hY
  have H0 := Lib.hid h0
  obtain ⟨m, hm⟩ : ∃ m, m = zs.length := ⟨_, rfl⟩
  have HM := Lib.hid hm
  have hm8 : m ≤ 8 := by omega
  have hbc := hbW.cell
  rw [← hm] at hbc
  clear hY h0 hbW hWc hc hbox hm
  refine callsIn_of_wp Try.func96 rfl trivial ?_ rfl
  simp only [Try.ntmps96, List.size_toArray, List.length_cons, List.length_nil, Nat.reduceAdd, Nat.reduceSub, Array.replicate_succ, Array.replicate_zero, List.push_toArray, List.append_toArray, List.nil_append, List.cons_append]
  gi_wp2
  gi_loopw [7] (fun kv wr => ∃ k : Nat, kv = .int .i64 k ∧ k ≤ m ∧ Hid (J (zs.take k) wr ∧ Below w.heap.size W wr)) (fun kv _ => m - (intOf kv).toNat)
  case atStart => exact ⟨0, rfl, by omega, Lib.hid ⟨H0.out, Below.refl _ _⟩⟩
  case round =>
    obtain ⟨k, rfl, hk1, HJ⟩ := hrel
    by_cases hk0 : k < m
    · have hi : k < zs.length := by have := HM.out; omega
      have hi0 : (0 : Int) ≤ (k : Int) := by omega
      have hi1 : (k : Int) < (m : Int) := by omega
      have hc2 : wr.cell? ⟨d, o + k, none⟩ = some (.int .i64 zs[k]) := (HJ.out.2.cell (p := ⟨d, o + k, none⟩) hdl).trans (HW.out k hi)
      obtain ⟨fn, tmps, assign, body, hy, hR⟩ := HY.out _ zs[k] wr HJ.out.1 (by simp; omega)
      have htk : zs.take (k + 1) = zs.take k ++ [zs[k]] := by rw [List.take_add_one, List.getElem?_eq_getElem hi]; rfl
      have HTK := Lib.hid htk
      have hxB := HJ.out.2
      obtain ⟨z, hz⟩ : ∃ z, z = zs[k] := ⟨_, rfl⟩
      rw [← hz] at hc2 hy HTK
      simp only [← hz] at hR
      clear hz htk
      gi_wp2
      refine hR.mono ?_
      rintro e W3 (⟨rfl, hJ3, hk3⟩ | ⟨rfl, hJx3⟩)
      · have HN : Hid (J (zs.take (k + 1)) W3 ∧ Below w.heap.size W W3) := Lib.hid ⟨by rw [HTK.out]; exact hJ3, hxB.trans hk3⟩
        clear hJ3 hk3 hxB HJ hc2
        gi_wp2
        go_roundw
        case rel => exact ⟨k + 1, by go_num, by omega, HN⟩
        case measure => simp [intOf]; omega
      · clear HJ hc2
        gi_wp2
        refine bodyPost_ret (results_none rfl _ _ _) rfl ?_
        exact ⟨⟨_, rfl⟩, .inr ⟨_, trivial, hJx3⟩⟩
    · have hk3 : ¬ ((k : Int) < (m : Int)) := by omega
      have HF : Hid (J zs wr) := Lib.hid (by have := HJ.out.1; rwa [List.take_of_length_le (by have := HM.out; omega)] at this)
      clear HJ
      gi_wp2
      go_end0
      first
        | exact HF.out
        | exact ⟨⟨_, rfl⟩, .inl HF.out⟩
        | exact .inl HF.out
        | exact ⟨⟨_, rfl⟩, .inl ⟨_, rfl, HF.out⟩⟩

theorem info_i64 : (Try.prog.info? 3).map (fun i => (i.zero, i.size, i.bytes)) = some (some (.int .i64 0), 1, 8) := by kernel_rfl

def IntsPost (l : List Int) (w : World) (e : Ending) (w' : World) : Prop :=
  ∃ v, e = .returned v ∧ w'.ownsRow w.heap.size 3 1 v l.length (l.map (Value.int .i64)) ∧ Below w.heap.size w w'

set_option maxHeartbeats 2000000 in
theorem appendseq_at {w : World} {d o cap : Nat} {zs : List Int} (h8 : zs.length ≤ 8) {w0 : World} (hdl : d < w0.heap.size) (hc : ∀ i (hi : i < zs.length), w0.cell? ⟨d, o + i, none⟩ = some (.int .i64 zs[i])) (Bs : Nat) (hB : Below w0.heap.size w0 w) (hBs : Bs < w.heap.size) (hbox : Boxed w Bs 81 (.slice (some ⟨d, o, none⟩) zs.length cap)) :
    Calls Try.prog 108 #[.slice none 0 0, .func (.func 96) #[] #[.pointer (some ⟨Bs, 0, none⟩)]] w (IntsPost zs w) := by
  refine (callsIn_wide (n := 3)).1 ?_
  obtain ⟨i0, hi, hz0, hz1, hz2⟩ := info_parts info_i64
  refine callsIn_of_wp_marks Try.func108 rfl trivial ?_ rfl
  simp only [Try.ntmps108, List.size_toArray, List.length_cons, List.length_nil, Nat.reduceAdd, Nat.reduceSub, Array.replicate_succ, Array.replicate_zero, List.push_toArray, List.append_toArray, List.nil_append, List.cons_append]
  gi_wp2
  have bO := Boxed.new w 81 (.slice none 0 0)
  have hB0 : Below w.heap.size w (w.alloc (.cells #[.slice none 0 0] 81)) := (Below.refl _ w).alloc (Nat.le_refl _) _
  have hseq := vals_in (w := w0) h8 hdl hc (3 - 1) Bs (w.alloc (.cells #[.slice none 0 0] 81)) (by omega) (hB.trans (hB0.mono hB.size)) (by simp; omega) (hbox.alloc _)
  refine wpIn_rangeFunc_ownG rfl (by omega) (gf := 96) (lb := #[.pointer (some ⟨Bs, 0, none⟩)]) rfl trivial (enters_of Try.func96 (by kernel_rfl) rfl)
    hseq belowK_t (belowK_b (by have := hB.size; simp; omega)) (Below.refl _ _) (fun _ => rfl)
    (fun pre W => (∃ u, Boxed W w.heap.size 81 u ∧ W.ownsRow w.heap.size 3 1 u pre.length (pre.map (Value.int .i64)) ∧ (u = .slice none 0 0 ↔ pre = [])) ∧ Below w.heap.size w W)
    (fun _ _ _ => False)
    (OwnFrom.and (Own.from (holdsRow_own w.heap.size w.heap.size 81 3 1 (fun pre => pre.length) (fun pre => pre.map (Value.int .i64)) (fun pre u => u = .slice none 0 0 ↔ pre = [])) _) (ownFrom_below (Nat.le_refl _) (by simp)))
    (fun _ _ _ _ _ hs _ _ => hs)
    ⟨⟨_, bO, World.ownsRow_nil _ _ _ _, by simp⟩, hB0⟩
    (fun x => { tmps := #[.slice none 0 0, .func (.func 96) #[] #[.pointer (some ⟨Bs, 0, none⟩)], .pointer (some ⟨w.heap.size, 0, none⟩), undef, .slice none 0 0, .int .i64 x, .func (.func 96) #[] #[.pointer (some ⟨Bs, 0, none⟩)], .int .i64 x, undef, undef, undef, undef, undef], defers := [] }) ?assign ?body ?done ?stop
  case assign =>
    intro l x W K hK
    gi_wp2
    exact hK
  case body =>
    rintro l pre x W ⟨⟨u, hv, hrow, hnil⟩, hBW⟩ hlt
    have hc := hv.cell
    gi_wp2_with (gi_at_builtin; refine wpListIn_append_own _ rfl _ _ 81 rfl w.heap.size 3 i0 (.int .i64 0) 1 8 Try.underlying81 hi hz0 hz1 hz2 rfl (by decide) _ _ _ rfl (hrow.alloc _) ⟨W.heap.size, 0, none⟩ 1 1 [.int .i64 x] rfl rfl (cell_one_new _ _ _) (by simp [Value.oneCell']) (by unfold maxLen; omega) (by omega) (by have := hBW.size; simp; omega) ?_; intro v' w1 hown' hgrow _; obtain ⟨g', cap', rfl⟩ := ownsRow_succ hown'; obtain ⟨hv1, hv2, hr2, hk2, hb2⟩ := hv.appended (by decide) hrow hBW.size (Nat.le_refl _) hown' hgrow; have hc1 := hv1.cell; have hf1 := hv1.frozen)
    exact ⟨hk2.from _, hb2.mono hB.size, ⟨_, hv2, by simpa using hr2, by simp⟩, hBW.trans hb2⟩
  case done =>
    rintro D ys W hD rfl ⟨⟨u, hv, hrow, hnil⟩, hBW⟩ hK
    have hc := hv.cell
    gi_wp2
    refine ⟨by simp, .inl ⟨_, _, rfl, run_takeDeferred hK, ?_⟩⟩
    exact ⟨_, results_tmp rfl _ _ _, u, rfl, ownsRow_putObj hrow _ hK rfl, hBW.trans (belowK_b (w := w) (Nat.le_refl _) W D _ _ (by simp at hD; omega) hK rfl rfl)⟩
  case stop =>
    rintro D c pre W _ _ h _
    exact h.elim

theorem collect_at {w : World} {d o cap : Nat} {zs : List Int} (h8 : zs.length ≤ 8) {w0 : World} (hdl : d < w0.heap.size) (hc : ∀ i (hi : i < zs.length), w0.cell? ⟨d, o + i, none⟩ = some (.int .i64 zs[i])) (Bs : Nat) (hB : Below w0.heap.size w0 w) (hBs : Bs < w.heap.size) (hbox : Boxed w Bs 81 (.slice (some ⟨d, o, none⟩) zs.length cap)) :
    Calls Try.prog 95 #[.func (.func 96) #[] #[.pointer (some ⟨Bs, 0, none⟩)]] w (IntsPost zs w) := by
  have C := Lib.hid (appendseq_at h8 hdl hc Bs hB hBs hbox)
  clear hc hB hBs hbox hdl
  go_enter Try.func95, Try.ntmps95
  go_wp2_with fail
  refine C.out.mono ?_
  rintro e w' ⟨v, rfl, h1, h2⟩
  obtain ⟨a, cc, rfl⟩ := own_form h1
  have HF : Hid (IntsPost zs w (.returned (.slice a zs.length cc)) w') := Lib.hid ⟨_, rfl, h1, h2⟩
  clear h1 h2
  go_wp2_with fail
  go_ret
  exact HF.out

/-- Sorted ints. -/
def sortI (zs : List Int) : List Int := zs.mergeSort fun x y => decide (x ≤ y)

theorem sorted_at {w : World} {d o cap : Nat} {zs : List Int} (h8 : zs.length ≤ 8) (h0 : 0 < zs.length) {w0 : World} (hdl : d < w0.heap.size) (hc : ∀ i (hi : i < zs.length), w0.cell? ⟨d, o + i, none⟩ = some (.int .i64 zs[i])) (Bs : Nat) (hB : Below w0.heap.size w0 w) (hBs : Bs < w.heap.size) (hbox : Boxed w Bs 81 (.slice (some ⟨d, o, none⟩) zs.length cap)) :
    Calls Try.prog 88 #[.func (.func 96) #[] #[.pointer (some ⟨Bs, 0, none⟩)]] w (IntsPost (sortI zs) w) := by
  have C := Lib.hid (collect_at h8 hdl hc Bs hB hBs hbox)
  clear hc hB hBs hbox hdl
  go_enter Try.func88, Try.ntmps88
  go_wp2_with fail
  refine C.out.mono ?_
  rintro e w' ⟨v, rfl, h1, h2⟩
  obtain ⟨a, cc, rfl⟩ := own_form h1
  obtain ⟨gg, rfl, -⟩ := own_some h1 h0
  obtain ⟨g', cap', hgv, hbg, hgl, hnc, hcm, hzl, hH⟩ := Lib.holds_of_ownsRow h1 (by simp)
  cases hgv
  have CS := Lib.hid (Try.slices_Sort_int gg 0 cc zs w' hH hgl (by omega))
  have HR : Hid (∀ n os, IntsPost (sortI zs) w (.returned (.slice (some ⟨gg, 0, none⟩) zs.length cc)) (Sort.grow (Sort.putRow (Value.int .i64) (Sort.ahead w' n) gg 0 (sortI zs).toArray) os)) := Lib.hid (fun n os => by
    have hl : (sortI zs).length = zs.length := List.length_mergeSort _
    have hg := Go.grownBy_sortedI (w := w') (g := gg) (n := n) (os := os) (sortI zs).toArray
    rcases h1.2 with ⟨q, _⟩ | ⟨g1, cap1, cur, q, hB, hh, hcap, hmax, hsz, htk⟩
    · cases q
    · cases q
      have := Go.ownsRow_sortedI (n := n) (os := os) (ss := zs) (ts := sortI zs) hl hB hh hcap hmax hsz
      refine ⟨_, rfl, by rw [hl]; exact this, h2.grown hg h2.size (fun j ej => by cases ej; exact hB)⟩)
  clear h1 h2 hH hgl hnc hcm hzl hbg C
  go_wp2_with fail
  refine CS.out.mono ?_
  rintro e w5 ⟨rfl, n5, os5, rfl⟩
  have HF := Lib.hid (HR.out n5 os5)
  clear HR CS
  generalize hw5 : Sort.grow _ _ = w5
  have HF5 : Hid (IntsPost (sortI zs) w (.returned (.slice (some ⟨gg, 0, none⟩) zs.length cc)) w5) := Lib.hid (by rw [← hw5]; exact HF.out)
  clear hw5 HF
  go_wp2_with fail
  go_ret
  exact HF5.out
end Go.Proofs.Ytpinoejckagjbaa

/- Are directories apart from one another? -/
namespace Go.Proofs.Ytpinoejckagjbaa
open Go.RowKit Go.Mum
set_option linter.unusedVariables false
set_option linter.unusedSimpArgs false
set_option maxRecDepth 100000

/-- No directory lies within another one. -/
def apartB (zs : List Int) : Bool := (List.range (zs.length - 1)).all fun k => decide ((sortI zs).getD k 0 + 2 ≤ (sortI zs).getD (k + 1) 0)

theorem sortI_len (zs : List Int) : (sortI zs).length = zs.length := List.length_mergeSort _
theorem sortI_mem {zs : List Int} {z : Int} : z ∈ sortI zs ↔ z ∈ zs := (List.mergeSort_perm zs _).mem_iff
theorem sortI_le (zs : List Int) {k : Nat} (hk : k + 1 < zs.length) : (sortI zs).getD k 0 ≤ (sortI zs).getD (k + 1) 0 := by
  have hp : (sortI zs).Pairwise (fun a b => decide (a ≤ b) = true) := List.pairwise_mergeSort (fun a b c h1 h2 => by simp only [decide_eq_true_eq] at *; omega) (fun a b => by simp only [Bool.or_eq_true, decide_eq_true_eq]; omega) zs
  have hl := sortI_len zs
  have := List.pairwise_iff_getElem.1 hp k (k + 1) (by omega) (by omega) (by omega)
  rw [List.getD_eq_getElem?_getD, List.getD_eq_getElem?_getD, List.getElem?_eq_getElem (by omega), List.getElem?_eq_getElem (by omega)]
  simpa using this

set_option maxHeartbeats 4000000 in
theorem apart_at {w : World} {d o cap : Nat} {zs : List Int} (h8 : zs.length ≤ 8) (h0 : 0 < zs.length) (hr : ∀ z ∈ zs, 0 ≤ z ∧ z ≤ 512) (hdl : d < w.heap.size) (hc : ∀ i (hi : i < zs.length), w.cell? ⟨d, o + i, none⟩ = some (.int .i64 zs[i])) :
    Calls Try.prog 67 #[.slice (some ⟨d, o, none⟩) zs.length cap] w fun e y => e = .returned (.bool (apartB zs)) ∧ Go.Mum.Keep [] w y := by
  have V := Lib.hid (values_at (some ⟨d, o, none⟩) zs.length cap w)
  have S := Lib.hid (sorted_at (w := w.alloc (.cells #[.slice (some ⟨d, o, none⟩) zs.length cap] 81)) (d := d) (o := o) (cap := cap) h8 h0 (w0 := w) hdl hc w.heap.size ((Below.refl _ w).alloc (Nat.le_refl _) _) (by simp) (Boxed.new w _ _))
  clear hc hdl
  go_enter Try.func67, Try.ntmps67
  go_wp2_with fail
  refine V.out.mono ?_
  rintro e w1 ⟨rfl, rfl⟩
  go_wp2_with fail
  refine S.out.mono ?_
  rintro e w2 ⟨v, rfl, hrow, hbel⟩
  have hk2 : Go.Mum.Keep [] w w2 := ((Go.Mum.Keep.refl [] w).alloc _).trans (below_keep hbel (Nat.le_refl _))
  have hl := sortI_len zs
  rw [hl] at hrow
  obtain ⟨a, cc, rfl⟩ := own_form hrow
  obtain ⟨gg, rfl, hcell⟩ := own_some hrow h0
  have HC : Hid (∀ j, j < zs.length → w2.cell? ⟨gg, j, none⟩ = some (.int .i64 ((sortI zs).getD j 0))) := Lib.hid (fun j hj => by
    rw [hcell j (by omega), List.getElem?_map, List.getD_eq_getElem?_getD, List.getElem?_eq_getElem (by omega)]
    rfl)
  have HR : Hid (∀ j, j < zs.length → 0 ≤ (sortI zs).getD j 0 ∧ (sortI zs).getD j 0 ≤ 512) := Lib.hid (fun j hj => by
    rw [List.getD_eq_getElem?_getD, List.getElem?_eq_getElem (by omega)]
    exact hr _ (sortI_mem.1 (List.getElem_mem _)))
  have HL := Lib.hid (fun k (hk : k + 1 < zs.length) => sortI_le zs hk)
  have HK2 := Lib.hid hk2
  have HAP : Hid (apartB zs = (List.range (zs.length - 1)).all fun k => decide ((sortI zs).getD k 0 + 2 ≤ (sortI zs).getD (k + 1) 0)) := Lib.hid rfl
  obtain ⟨n, hn⟩ : ∃ n, n = zs.length := ⟨_, rfl⟩
  rw [← hn] at HC HR HL HAP h0 h8
  rw [← hn]
  generalize (sortI zs).getD = F at HC HR HL HAP
  clear hrow hbel hcell hr hk2 hl S V hn
  go_wp2_with fail
  go_loopw [4] (fun kv wr => ∃ k : Nat, kv = .int .i64 k ∧ 1 ≤ k ∧ k ≤ n ∧ Hid (Go.Mum.Keep [] w2 wr ∧ ∀ j, j + 1 < k → F j 0 + 2 ≤ F (j + 1) 0)) (fun kv _ => n - (intOf kv).toNat)
  case atStart => exact ⟨1, rfl, by omega, by omega, Lib.hid ⟨Go.Mum.Keep.refl _ _, fun j hj => by omega⟩⟩
  case round =>
    obtain ⟨k, rfl, hk1, hkn, HJ⟩ := hrel
    rename World => wo
    by_cases hkl : k < n
    · obtain ⟨i, rfl⟩ : ∃ i, k = i + 1 := ⟨k - 1, by omega⟩
      have hk3 : ((i + 1 : Nat) : Int) < (n : Int) := by omega
      have hi0 : (0 : Int) ≤ ((i + 1 : Nat) : Int) := by omega
      have e1 := HJ.out.1.cell (HC.out (i + 1) (by omega)) (by simp)
      have e0 := HJ.out.1.cell (HC.out i (by omega)) (by simp)
      have r1 := HR.out (i + 1) (by omega)
      have r0 := HR.out i (by omega)
      have hle := HL.out i (by omega)
      have hnb := Lib.hid hkl
      generalize hy : F (i + 1) 0 = y at e1 r1 hle
      generalize hx : F i 0 = xx at e0 r0 hle
      have HXY := Lib.hid (And.intro hx hy)
      have wi : ((i + 1 : Nat) : Int) - 1 = (i : Int) := by omega
      have wi2 : IntKind.i64.wrap (i : Int) = (i : Int) := IntWalk.i64_in _ (by omega)
      have ws : IntKind.i64.wrap (2 + xx) = 2 + xx := IntWalk.i64_in _ (by omega)
      have hi2 : (i : Int) < (n : Int) := by omega
      have hi3 : (0 : Int) ≤ (i : Int) := by omega
      clear hx hy hkl
      by_cases hlt : y < 2 + xx
      · have hb : apartB zs = false := by
          rw [HAP.out, List.all_eq_false]
          refine ⟨i, List.mem_range.2 (by have := hnb.out; omega), ?_⟩
          rw [HXY.out.1, HXY.out.2]
          simp only [decide_eq_true_eq]; omega
        have d1 : decide (y < 2 + xx) = true := decide_eq_true hlt
        have d2 : decide (xx ≤ y) = true := decide_eq_true hle
        have HF : Hid (apartB zs = false ∧ ∀ m, Go.Mum.Keep [] w (wo.drewN m)) := Lib.hid ⟨hb, fun m => (HK2.out.trans HJ.out.1).drewN m⟩
        clear HJ hb
        go_wp2_with fail
        go_quiet (fail)
        go_wp2_with fail
        go_ret
        exact ⟨by rw [HF.out.1]; rfl, HF.out.2 _⟩
      · have d1 : decide (y < 2 + xx) = false := decide_eq_false hlt
        have HN : Hid (∀ m, Go.Mum.Keep [] w2 (wo.drewN m) ∧ ∀ j, j + 1 < i + 1 + 1 → F j 0 + 2 ≤ F (j + 1) 0) := Lib.hid (fun m => ⟨HJ.out.1.drewN m, fun j hj => by
          rcases (by omega : j + 1 < i + 1 ∨ j = i) with q | rfl
          · exact HJ.out.2 j q
          · rw [HXY.out.1, HXY.out.2]; omega⟩)
        clear HJ
        go_wp2_with fail
        go_quiet (fail)
        go_wp2_with fail
        go_roundw
        case rel => exact ⟨i + 1 + 1, by go_num, by omega, by have := hnb.out; omega, Lib.hid (HN.out _)⟩
        case measure => simp [intOf]; have := hnb.out; omega
    · have hk3 : ¬ ((k : Int) < (n : Int)) := by omega
      have HF : Hid (apartB zs = true ∧ Go.Mum.Keep [] w wo) := Lib.hid ⟨by
        rw [HAP.out, List.all_eq_true]
        intro j hj
        rw [List.mem_range] at hj
        exact decide_eq_true (HJ.out.2 j (by omega)), HK2.out.trans HJ.out.1⟩
      clear HJ hkl
      go_wp2_with fail
      go_ret
      exact ⟨by rw [HF.out.1]; rfl, HF.out.2⟩
end Go.Proofs.Ytpinoejckagjbaa
