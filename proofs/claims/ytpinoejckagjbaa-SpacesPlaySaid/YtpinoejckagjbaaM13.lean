/- Contracts of the functions that the law reaches, walked, and the plain laws on them (several texts in one). -/
import Derived.Laws.StructEq
import Derived.Outline
import Derived.Test.YtpinoejckagjbaaM12

/- The pages of a shadow, table by table. -/
namespace Go.Proofs.Ytpinoejckagjbaa
open Go.RowKit Go.Mum Go.Shelf
set_option linter.unusedVariables false
set_option linter.unusedSimpArgs false
set_option maxRecDepth 100000

attribute [local go_sem] Oper.semAt_some

def cellU (z : Nat) : Value := .int .u32 (z : Nat)

theorem run_equalIn_u32s {P : Program} (w : World) (d : Nat) (t e : TypeId) (n : Nat) (ht : P.underlying t = some (.array n e)) (he : P.underlying e = some (.int .u32)) (hsz : ∀ w, (sizeOf e).run P w = .ok 1 w)
    (xs ys : List Nat) (hx : xs.length = n) (hy : ys.length = n) :
    (Op.equalIn (d + 2) t (.agg (xs.map cellU).toArray) (.agg (ys.map cellU).toArray)).run P w = .ok ((List.range n).all fun i => xs.getD i 0 == ys.getD i 0) w := by
  rw [List.range_eq_range', Op.equalIn]
  simp only [Sem.run_bind, run_underlying ht, Result.andThen_ok, hsz, Std.Legacy.Range.forIn_eq_forIn_range', Std.Legacy.Range.size, Nat.sub_zero, Nat.add_sub_cancel, Nat.div_one]
  have hl : ∀ i ∈ List.range' 0 n 1, i < n := fun i hi => by simpa using (List.mem_range'_1.1 hi).2
  generalize List.range' 0 n 1 = l at hl ⊢
  induction l with
  | nil => simp
  | cons i l ih =>
    have hi : i < n := hl i (by simp)
    have px : (part e (xs.map cellU).toArray (i * 1)).run P w = .ok (cellU (xs.getD i 0)) w := by
      simp [part, isAgg, run_underlying he, List.getD, List.getElem?_eq_getElem (show i < xs.length by omega)]
    have py : (part e (ys.map cellU).toArray (i * 1)).run P w = .ok (cellU (ys.getD i 0)) w := by
      simp [part, isAgg, run_underlying he, List.getD, List.getElem?_eq_getElem (show i < ys.length by omega)]
    have pe : (Op.equalIn (d + 1) e (cellU (xs.getD i 0)) (cellU (ys.getD i 0))).run P w = .ok (xs.getD i 0 == ys.getD i 0) w := by
      rw [cellU, cellU, run_equalIn_int w d e .u32 .u32 _ _ he]
      congr 1
      rw [Bool.eq_iff_iff]
      simp
      omega
    simp only [List.forIn_cons, Sem.run_bind, px, py, pe, Result.andThen_ok, List.all_cons]
    cases hb : (xs.getD i 0 == ys.getD i 0)
    · simp
    · simp only [Bool.not_true, Bool.false_eq_true, if_false, Sem.run_pure, Result.andThen_ok, Bool.true_and]
      exact ih fun j hj => hl j (by simp [hj])

def enL (t : Tab) : List Nat := (List.range 16).map t.en
theorem entL_enL (t : Tab) : entL t = (enL t).map cellU := by
  unfold entL enL
  rw [List.map_map]
  rfl
theorem enL_at (t : Tab) {j : Nat} (hj : j < 16) : (enL t).getD j 0 = t.en j := by
  unfold enL
  rw [List.getD_eq_getElem?_getD, List.getElem?_map, List.getElem?_range hj]
  rfl

def noEn (t : Tab) : Bool := (List.range 16).all fun i => t.en i == 0

theorem eql_ent (t : Tab) (x y : Operand) (w : World) : ((do eqGuard .eql 107 x y (.agg (entL t).toArray) (.agg (entL tab0).toArray); binOp .eql 107 (.agg (entL t).toArray) (.agg (entL tab0).toArray)) : Sem Value).run Try.prog w = .ok (.bool (noEn t)) w := by
  have hg := run_eqGuard_agg (P := Try.prog) w .eql 107 x y (entL t).toArray (entL tab0).toArray (by kernel_rfl)
  have he := run_equalIn_u32s (P := Try.prog) w 9998 107 22 16 Try.underlying107 Try.underlying22 (fun w => by kernel_rfl) (enL t) (enL tab0) (by simp [enL]) (by simp [enL])
  have hall : ((List.range 16).all fun i => (enL t).getD i 0 == (enL tab0).getD i 0) = noEn t := by
    unfold noEn
    rw [Bool.eq_iff_iff, List.all_eq_true, List.all_eq_true]
    refine forall_congr' (fun i => ?_)
    refine imp_congr_right (fun hi => ?_)
    have := List.mem_range.1 hi
    rw [enL_at t this, enL_at tab0 this]
    rfl
  rw [hall] at he
  rw [entL_enL, entL_enL] at hg ⊢
  simp only [Sem.run_bind, hg, Result.andThen_ok]
  rw [run_eql_struct, he]
  rfl

theorem index_ent (t : Tab) {j : Nat} (hj : j < 16) (w : World) : (Instr.index 107 (.agg (entL t).toArray) (.int .i64 j)).run Try.prog w = .ok (.int .u32 (t.en j : Nat)) w := by
  have hi : (j : Int) < 16 := by omega
  have hp : (part 22 (entL t).toArray (j * 1)).run Try.prog w = .ok (.int .u32 (t.en j : Nat)) w := by
    have hg : (entL t)[j]? = some (.int .u32 (t.en j : Nat)) := by
      unfold entL
      rw [List.getElem?_map, List.getElem?_range hj]; rfl
    simp [part, isAgg, run_underlying Try.underlying22, hg]
  have hsz : (sizeOf 22).run Try.prog w = .ok 1 w := by kernel_rfl
  have hu := run_underlying Try.underlying107 w
  have ha : (asIntOf (.int .i64 j)).run Try.prog w = .ok (.i64, (j : Int)) w := rfl
  unfold Instr.index
  simp only [Sem.run_bind, ha, hu, Result.andThen_ok, hsz]
  rw [if_pos ⟨by omega, by omega⟩]
  simp only [Sem.run_bind, hsz, Result.andThen_ok, Int.toNat_natCast]
  exact hp

/-- What leads somewhere among the first m pages. -/
def plV (E : Nat → Nat) (m : Nat) : List Int := (List.range m).filterMap fun i => if E i = 0 then none else some ((64 * i : Nat) : Int)
def tabE (T : Nat → Tab) (i : Nat) : Nat := (T (i / 16)).en (i % 16)

theorem plV_succ (E : Nat → Nat) (m : Nat) : plV E (m + 1) = plV E m ++ (if E m = 0 then [] else [((64 * m : Nat) : Int)]) := by
  unfold plV
  rw [List.range_succ, List.filterMap_append]
  congr 1
  show (List.filterMap _ [m]) = _
  rw [List.filterMap_cons]
  by_cases h : E m = 0
  · simp [h]
  · simp [h]

theorem plV_len (E : Nat → Nat) (m : Nat) : (plV E m).length ≤ m := by
  unfold plV
  refine Nat.le_trans (List.length_filterMap_le _ _) ?_
  simp

theorem plV_none {T : Nat → Tab} {k : Nat} (h : noEn (T k) = true) : plV (tabE T) (16 * k + 16) = plV (tabE T) (16 * k) := by
  have hz : ∀ j, j < 16 → (T k).en j = 0 := fun j hj => by
    unfold noEn at h
    rw [List.all_eq_true] at h
    simpa using h j (List.mem_range.2 hj)
  have : ∀ j, j ≤ 16 → plV (tabE T) (16 * k + j) = plV (tabE T) (16 * k) := by
    intro j
    induction j with
    | zero => intro _; rfl
    | succ j ih =>
      intro hj
      rw [show 16 * k + (j + 1) = 16 * k + j + 1 by omega, plV_succ, ih (by omega), if_pos (by unfold tabE; rw [show (16 * k + j) / 16 = k by omega, show (16 * k + j) % 16 = j by omega]; exact hz j (by omega)), List.append_nil]
  exact this 16 (by omega)
end Go.Proofs.Ytpinoejckagjbaa

/- The pages of a shadow, one by one. -/
namespace Go.Proofs.Ytpinoejckagjbaa
open Go.RowKit Go.Mum Go.Shelf
set_option linter.unusedVariables false
set_option linter.unusedSimpArgs false
set_option maxRecDepth 100000

attribute [local go_sem] Oper.semAt_some

set_option maxHeartbeats 8000000 in
theorem each_at {w : World} {s r p : Nat} {dir : Int} {T : Nat → Tab} (h : ShAt w s r p dir T) (h32 : ∀ n, n < 32 → ∀ k, k < 16 → (T n).en k < 4294967296) : EachOK s (plV (tabE T) 512) w := by
  intro n Bs w1 hn hB hBs hcell l J Jx W hW hJ hJx hY h0
  have hkw : Go.Mum.Keep [] w W := below_keep (hB.trans (hW.mono hB.size)) (Nat.le_refl _)
  have hS : ShAt W s r p dir T := h.keep hkw (by simp)
  have hc : W.cell? ⟨Bs, 0, none⟩ = some (.pointer (some ⟨s, 0, none⟩)) := (hW.cell (p := ⟨Bs, 0, none⟩) hBs).trans hcell
  have hr := hS.range
  have HJ : Hid (∀ (l : List Int) y z, J l y → Go.Mum.Keep [] y z → J l z) := Lib.hid (fun l y z h hz => hJ l y z none h (keep_grown hz) (by intro r hr; cases hr))
  have HW : Hid (w.heap.size ≤ W.heap.size) := Lib.hid (by have := hkw.size; exact this)
  have HY := Lib.hid hY
  have H0 := Lib.hid h0
  clear hY hJ hJx hcell hS h hkw hW hB h0
  refine callsIn_of_wp Try.func84 rfl trivial ?_ rfl
  simp only [Try.ntmps84, List.size_toArray, List.length_cons, List.length_nil, Nat.reduceAdd, Nat.reduceSub, Array.replicate_succ, Array.replicate_zero, List.push_toArray, List.append_toArray, List.nil_append, List.cons_append]
  gi_wp2_with (refine wpListIn_load_mid rfl 110 (.tmp 9) rfl s 3 (by rfl) (tabsL T) _ hr Try.underlying110 rfl (info_tabs' _) ?_)
  gi_loopw [11] (fun kv wr => ∃ k : Nat, kv = .int .i64 k ∧ k ≤ 32 ∧ Hid (J (plV (tabE T) (16 * k)) wr ∧ W.heap.size ≤ wr.heap.size)) (fun kv _ => 32 - (intOf kv).toNat)
  case atStart => exact ⟨0, rfl, by omega, Lib.hid ⟨H0.out, Nat.le_refl _⟩⟩
  case round =>
    obtain ⟨k, rfl, hk1, HR⟩ := hrel
    rename World => wo
    by_cases hk2 : k < 32
    · have hi : (k : Int) < 32 := by omega
      have hidx := index_tabs T hk2
      have h32k := Lib.hid (h32 k hk2)
      obtain ⟨t, ht⟩ : ∃ t, t = T k := ⟨_, rfl⟩
      rw [← ht] at hidx h32k
      have hrng : ∀ u : World, (u.alloc (.cells (tabL t).toArray 109)).rangeAt u.heap.size 2 (entL t) := fun u j v hj => by
        have hc : (u.alloc (.cells (tabL t).toArray 109)).heap[u.heap.size]? = some (.cells (tabL t).toArray 109 (0, 0)) := heap_alloc_same u _
        refine cell_of hc (2 + j) ?_
        rw [List.getElem?_toArray, Nat.add_comm 2 j]
        exact hj
      have hr1 := hrng wo
      have HA : Hid (∀ o, J (plV (tabE T) (16 * k)) (wo.alloc o) ∧ W.heap.size ≤ (wo.alloc o).heap.size) := Lib.hid (fun o => ⟨HJ.out _ _ _ HR.out.1 ((Go.Mum.Keep.refl [] wo).alloc o), by have := HR.out.2; simp; omega⟩)
      have HT := Lib.hid ht
      clear hrng hr ht
      by_cases hne : noEn t = true
      · have HN : Hid (plV (tabE T) (16 * (k + 1)) = plV (tabE T) (16 * k)) := Lib.hid (by
          rw [show 16 * (k + 1) = 16 * k + 16 by omega]
          exact plV_none (by rw [← HT.out]; exact hne))
        clear hk2
        gi_wp2_with (first
          | (refine wpListIn_store_new rfl 109 (.tmp 4) (.tmp 14) rfl wo _ (tabL t).toArray rfl (by rfl) (by rfl) (by rw [List.size_toArray, tabL_len]; exact info_table) (by simp [tabL_len]) (tabL_one _) ?_)
          | (refine wpListIn_load_mid rfl 107 (.tmp 15) rfl wo.heap.size 2 (by rfl) (entL t) _ hr1 Try.underlying107 rfl (by rw [entL_len]; exact info_ents) ?_)
          | (refine wpListIn_build rfl 107 #[] rfl (.agg (entL tab0).toArray) (by exact build_ents _) ?_)
          | (refine wpListIn_eql rfl 107 107 (.tmp 16) (.tmp 17) rfl (.agg (entL t).toArray) (.agg (entL tab0).toArray) (by rfl) (by rfl) true (by rw [← hne]; exact eql_ent t (.tmp 16) (.tmp 17) _) ?_))
        go_roundw
        case rel => exact ⟨k + 1, by go_num, by omega, Lib.hid ⟨by rw [HN.out]; exact (HA.out _).1, (HA.out _).2⟩⟩
        case measure => simp [intOf]; omega
      · have hne : noEn t = false := by simpa using hne
        gi_wp2_with (first
          | (refine wpListIn_store_new rfl 109 (.tmp 4) (.tmp 14) rfl wo _ (tabL t).toArray rfl (by rfl) (by rfl) (by rw [List.size_toArray, tabL_len]; exact info_table) (by simp [tabL_len]) (tabL_one _) ?_)
          | (refine wpListIn_load_mid rfl 107 (.tmp 15) rfl wo.heap.size 2 (by rfl) (entL t) _ hr1 Try.underlying107 rfl (by rw [entL_len]; exact info_ents) ?_)
          | (refine wpListIn_load_mid rfl 107 (.tmp 19) rfl wo.heap.size 2 (by rfl) (entL t) _ hr1 Try.underlying107 rfl (by rw [entL_len]; exact info_ents) ?_)
          | (refine wpListIn_build rfl 107 #[] rfl (.agg (entL tab0).toArray) (by exact build_ents _) ?_)
          | (refine wpListIn_eql rfl 107 107 (.tmp 16) (.tmp 17) rfl (.agg (entL t).toArray) (.agg (entL tab0).toArray) (by rfl) (by rfl) false (by rw [← hne]; exact eql_ent t (.tmp 16) (.tmp 17) _) ?_))
        obtain ⟨w2, hw2⟩ : ∃ w2, w2 = wo.alloc (.cells (tabL t).toArray 109) := ⟨_, rfl⟩
        rw [← hw2]
        have HA2 : Hid (J (plV (tabE T) (16 * k)) w2 ∧ W.heap.size ≤ w2.heap.size) := Lib.hid (by rw [hw2]; exact HA.out _)
        clear hr1 hw2 hne hidx
        gi_loopw [21] (fun jv wr => ∃ j : Nat, jv = .int .i64 j ∧ j ≤ 16 ∧ Hid (J (plV (tabE T) (16 * k + j)) wr ∧ W.heap.size ≤ wr.heap.size)) (fun jv _ => 16 - (intOf jv).toNat)
        case atStart => exact ⟨0, rfl, by omega, HA2⟩
        case round =>
          clear HA2
          obtain ⟨j, rfl, hj1, HQ⟩ := hrel
          rename World => wq
          by_cases hj : j < 16
          · have hji : (j : Int) < 16 := by omega
            have hix := index_ent t hj
            have hen : tabE T (16 * k + j) = t.en j := by
              unfold tabE; rw [show (16 * k + j) / 16 = k by omega, show (16 * k + j) % 16 = j by omega, HT.out]
            obtain ⟨e, he⟩ : ∃ e, e = t.en j := ⟨_, rfl⟩
            rw [← he] at hix hen
            have he32 : e < 4294967296 := by rw [he]; exact h32k.out j hj
            clear he
            by_cases hz : e = 0
            · have HN : Hid (plV (tabE T) (16 * k + (j + 1)) = plV (tabE T) (16 * k + j)) := Lib.hid (by
                rw [show 16 * k + (j + 1) = 16 * k + j + 1 by omega, plV_succ, if_pos (by omega), List.append_nil])
              rw [hz] at hix
              replace hix : ∀ w, (Instr.index 107 (.agg (entL t).toArray) (.int .i64 j)).run Try.prog w = .ok (.int .u32 0) w := hix
              clear hen he32 hz
              gi_wp2
              refine ⟨fun _ h => (by cases h), ?_⟩
              gi_wp2
              go_roundw
              case rel => exact ⟨j + 1, by go_num, by omega, Lib.hid ⟨by rw [HN.out]; exact HQ.out.1, HQ.out.2⟩⟩
              case measure => simp [intOf]; omega
            · have HN : Hid (plV (tabE T) (16 * k + (j + 1)) = plV (tabE T) (16 * k + j) ++ [((64 * (16 * k + j) : Nat) : Int)]) := Lib.hid (by
                rw [show 16 * k + (j + 1) = 16 * k + j + 1 by omega, plV_succ, if_neg (by omega)])
              have hlen : (plV (tabE T) (16 * k + j)).length < 512 := by have := plV_len (tabE T) (16 * k + j); omega
              obtain ⟨v, hv⟩ : ∃ v, v = 64 * (16 * k + j) := ⟨_, rfl⟩
              rw [← hv] at HN
              obtain ⟨fn, tmps, assign, body, hy, hR⟩ := HY.out _ ((v : Nat) : Int) wq HQ.out.1 hlen
              have hez : ((e : Int) != 0) = true := by rw [bne_iff_ne]; omega
              have hor : bits .or .u32 ((k : Int) * 1024) ((j : Int) * 64) = (v : Int) := by
                have h := or_u32 (k * 2 ^ 10) (j * 64) (by omega) (by omega)
                rw [or_add (by omega)] at h
                have e1 : ((k * 2 ^ 10 : Nat) : Int) = (k : Int) * 1024 := by omega
                have e2 : ((j * 64 : Nat) : Int) = (j : Int) * 64 := by omega
                rw [e1, e2] at h
                rw [h]
                omega
              have HQ2 := HQ.out.2
              have hpre : Hid (plV (tabE T) (16 * k + (j + 1)) <+: plV (tabE T) 512) := Lib.hid (by
                have hp : ∀ d m, plV (tabE T) m <+: plV (tabE T) (m + d) := by
                  intro d m
                  induction d with
                  | zero => exact List.prefix_refl _
                  | succ d ih => rw [← Nat.add_assoc, plV_succ]; exact ih.trans (List.prefix_append _ _)
                have := hp (512 - (16 * k + (j + 1))) (16 * k + (j + 1))
                rwa [show 16 * k + (j + 1) + (512 - (16 * k + (j + 1))) = 512 by omega] at this)
              clear hen hlen hv
              gi_wp2
              refine hR.mono ?_
              rintro e W3 (⟨rfl, hJ3, hk3⟩ | ⟨rfl, hJx3⟩)
              · have HD : Hid (J (plV (tabE T) (16 * k + (j + 1))) W3 ∧ W.heap.size ≤ W3.heap.size) := Lib.hid ⟨by rw [HN.out]; exact hJ3, Nat.le_trans HQ2 hk3.size⟩
                clear hJ3 hk3 HQ2
                gi_wp2
                go_roundw
                case rel => exact ⟨j + 1, by go_num, by omega, HD⟩
                case measure => simp [intOf]; omega
              · have HD : Hid (∃ pre, pre <+: plV (tabE T) 512 ∧ Jx pre W3) := Lib.hid ⟨_, hpre.out, by rw [HN.out]; exact hJx3⟩
                clear hJx3 HQ2
                gi_wp2
                refine bodyPost_ret (results_none rfl _ _ _) rfl ?_
                exact ⟨⟨_, rfl⟩, .inr HD.out⟩
          · have hji : ¬ ((j : Int) < 16) := by omega
            obtain rfl : j = 16 := by omega
            gi_wp2
            go_roundw
            case rel => exact ⟨k + 1, by go_num, by omega, Lib.hid ⟨by rw [show 16 * (k + 1) = 16 * k + 16 by omega]; exact HQ.out.1, HQ.out.2⟩⟩
            case measure => simp [intOf]; omega
    · have hi : ¬ ((k : Int) < 32) := by omega
      obtain rfl : k = 32 := by omega
      gi_wp2
      go_end0
      exact ⟨⟨_, rfl⟩, .inl HR.out.1⟩
end Go.Proofs.Ytpinoejckagjbaa

/- A Shadow as it lies in the memory of the program, its upper half too. -/
namespace Go.Proofs.Ytpinoejckagjbaa
open Go.RowKit Go.Mum
set_option linter.unusedVariables false
set_option linter.unusedSimpArgs false
set_option maxRecDepth 100000

/-- The cells of a Shadow. -/
def shCellU (r p : Nat) (dir : Int) (uv : Value) (T : Nat → Tab) (j : Nat) : Value :=
  if j = 0 then .pointer (some ⟨r, 0, none⟩) else if j = 1 then .pointer (some ⟨p, 0, none⟩) else if j = 2 then .int .i64 dir else if j = 579 then uv else
  if (j - 3) % 18 = 0 then .bool (T ((j - 3) / 18)).th else if (j - 3) % 18 = 1 then .int .i64 ((T ((j - 3) / 18)).fr : Nat) else .int .u32 (((T ((j - 3) / 18)).en ((j - 3) % 18 - 2) : Nat))

def ShU (x : World) (s r p : Nat) (dir : Int) (uv : Value) (T : Nat → Tab) : Prop := ArrAt x s 112 580 (shCellU r p dir uv T)

section
variable {w x : World} {s r p : Nat} {dir : Int} {uv : Value} {T : Nat → Tab}

theorem ShU.keep {l : List Nat} (h : ShU w s r p dir uv T) (hk : Keep l w x) (hn : s ∉ l) : ShU x s r p dir uv T := ArrAt.keep h hk hn

theorem ShU.ext {T' : Nat → Tab} (h : ShU w s r p dir uv T) (he : ∀ n, n < 32 → (T n).th = (T' n).th ∧ (T n).fr = (T' n).fr ∧ ∀ k, k < 16 → (T n).en k = (T' n).en k) : ShU w s r p dir uv T' := by
  refine ArrAt.ext h (fun j hj => ?_)
  unfold shCellU
  by_cases h0 : j = 0
  · simp [h0]
  by_cases h1 : j = 1
  · simp [h1]
  by_cases h2 : j = 2
  · simp [h2]
  by_cases h3 : j = 579
  · simp [h3]
  obtain ⟨a, b, c⟩ := he ((j - 3) / 18) (by omega)
  rw [if_neg h0, if_neg h1, if_neg h2, if_neg h3, if_neg h0, if_neg h1, if_neg h2, if_neg h3, a, b]
  by_cases h4 : (j - 3) % 18 = 0
  · rw [if_pos h4, if_pos h4]
  by_cases h5 : (j - 3) % 18 = 1
  · rw [if_neg h4, if_neg h4, if_pos h5, if_pos h5]
  rw [if_neg h4, if_neg h4, if_neg h5, if_neg h5, c _ (by omega)]

theorem ShU.heads (h : ShU w s r p dir uv T) : w.cell? ⟨s, 0, none⟩ = some (.pointer (some ⟨r, 0, none⟩)) ∧ w.cell? ⟨s, 1, none⟩ = some (.pointer (some ⟨p, 0, none⟩)) ∧ w.cell? ⟨s, 2, none⟩ = some (.int .i64 dir) ∧ w.cell? ⟨s, 579, none⟩ = some uv := by
  refine ⟨?_, ?_, ?_, ?_⟩
  all_goals
    rw [ArrAt.cell h (by omega)]
    rfl

theorem shCellU_th {n : Nat} (hn : n < 32) : shCellU r p dir uv T (3 + n * 18) = .bool (T n).th := by
  unfold shCellU
  rw [if_neg (by omega), if_neg (by omega), if_neg (by omega), if_neg (by omega), if_pos (by omega), show (3 + n * 18 - 3) / 18 = n by omega]

theorem shCellU_fr {n : Nat} (hn : n < 32) : shCellU r p dir uv T (3 + n * 18 + 1) = .int .i64 ((T n).fr : Nat) := by
  unfold shCellU
  rw [if_neg (by omega), if_neg (by omega), if_neg (by omega), if_neg (by omega), if_neg (by omega), if_pos (by omega), show (3 + n * 18 + 1 - 3) / 18 = n by omega]

theorem shCellU_en {n k : Nat} (hn : n < 32) (hk : k < 16) : shCellU r p dir uv T (3 + n * 18 + 2 + k) = .int .u32 ((T n).en k : Nat) := by
  unfold shCellU
  rw [if_neg (by omega), if_neg (by omega), if_neg (by omega), if_neg (by omega), if_neg (by omega), if_neg (by omega), show (3 + n * 18 + 2 + k - 3) / 18 = n by omega, show (3 + n * 18 + 2 + k - 3) % 18 - 2 = k by omega]

theorem ShU.th (h : ShU w s r p dir uv T) {n : Nat} (hn : n < 32) : w.cell? ⟨s, 3 + n * 18, none⟩ = some (.bool (T n).th) := by
  rw [ArrAt.cell h (by omega), shCellU_th hn]

theorem ShU.fr (h : ShU w s r p dir uv T) {n : Nat} (hn : n < 32) : w.cell? ⟨s, 3 + n * 18 + 1, none⟩ = some (.int .i64 ((T n).fr : Nat)) := by
  rw [ArrAt.cell h (by omega), shCellU_fr hn]

theorem ShU.en (h : ShU w s r p dir uv T) {n k : Nat} (hn : n < 32) (hk : k < 16) : w.cell? ⟨s, 3 + n * 18 + 2 + k, none⟩ = some (.int .u32 ((T n).en k : Nat)) := by
  rw [ArrAt.cell h (by omega), shCellU_en hn hk]

theorem ShU.frozen (h : ShU w s r p dir uv T) (j : Nat) : w.frozen? ⟨s, j, none⟩ = false := ArrAt.frozen h j

/-- An entry is laid. -/
theorem ShU.lay (h : ShU w s r p dir uv T) {n k e : Nat} (hn : n < 32) (hk : k < 16) : ShU (w.setCell ⟨s, 3 + n * 18 + 2 + k, none⟩ (.int .u32 e)) s r p dir uv (setTab T n (setEn (T n) k e)) := by
  refine ArrAt.ext (ArrAt.set h _ _) (fun j hj => ?_)
  by_cases hj0 : j = 3 + n * 18 + 2 + k
  · rw [if_pos hj0, hj0, shCellU_en hn hk, setTab_same]
    show _ = Value.int .u32 (((if k = k then e else (T n).en k) : Nat) : Int)
    rw [if_pos rfl]
  · rw [if_neg hj0]
    unfold shCellU
    by_cases h0 : j = 0
    · simp [h0]
    by_cases h1 : j = 1
    · simp [h1]
    by_cases h2 : j = 2
    · simp [h2]
    by_cases h3 : j = 579
    · simp [h3]
    rw [if_neg h0, if_neg h1, if_neg h2, if_neg h3, if_neg h0, if_neg h1, if_neg h2, if_neg h3]
    by_cases hm : (j - 3) / 18 = n
    · rw [hm, setTab_same]
      show _ = if (j - 3) % 18 = 0 then Value.bool (T n).th else if (j - 3) % 18 = 1 then .int .i64 ((T n).fr : Nat) else .int .u32 ((if (j - 3) % 18 - 2 = k then e else (T n).en ((j - 3) % 18 - 2) : Nat))
      by_cases h4 : (j - 3) % 18 = 0
      · rw [if_pos h4, if_pos h4]
      by_cases h5 : (j - 3) % 18 = 1
      · rw [if_neg h4, if_neg h4, if_pos h5, if_pos h5]
      rw [if_neg h4, if_neg h4, if_neg h5, if_neg h5, if_neg (by omega)]
    · rw [setTab_ne hm]









/-- A table is set whole. -/
theorem ShU.table (h : ShU w s r p dir uv T) {n : Nat} (hn : n < 32) (t : Tab) : ShU (w.setCells s (3 + n * 18) (tabL t)) s r p dir uv (setTab T n t) := by
  refine ArrAt.ext (sets_at (tabL t) (3 + n * 18) w _ h) (fun j hj => ?_)
  rw [tabL_len]
  by_cases hin : 3 + n * 18 ≤ j ∧ j < 3 + n * 18 + 18
  · rw [if_pos hin, tabL_at t (by omega)]
    unfold shCellU
    rw [if_neg (show ¬ j = 0 by omega), if_neg (show ¬ j = 1 by omega), if_neg (show ¬ j = 2 by omega), if_neg (show ¬ j = 579 by omega), show (j - 3) / 18 = n by omega, setTab_same, show (j - 3) % 18 = j - (3 + n * 18) by omega]
  · rw [if_neg hin]
    unfold shCellU
    by_cases h0 : j = 0
    · simp [h0]
    by_cases h1 : j = 1
    · simp [h1]
    by_cases h2 : j = 2
    · simp [h2]
    by_cases h3 : j = 579
    · simp [h3]
    rw [if_neg h0, if_neg h1, if_neg h2, if_neg h3, if_neg h0, if_neg h1, if_neg h2, if_neg h3, setTab_ne (by omega)]



theorem shCellU_body {j : Nat} (h0 : 3 ≤ j) (h1 : j < 579) : shCellU r p dir uv T j = shCell 0 0 0 T j := by
  unfold shCellU shCell
  rw [if_neg (show ¬ j = 0 by omega), if_neg (show ¬ j = 1 by omega), if_neg (show ¬ j = 2 by omega), if_neg (show ¬ j = 579 by omega), if_neg (show ¬ j = 0 by omega), if_neg (show ¬ j = 1 by omega), if_neg (show ¬ j = 2 by omega), if_neg (show ¬ j = 579 by omega)]





theorem ShU.range (h : ShU w s r p dir uv T) : w.rangeAt s 3 (tabsL T) := fun j v hj => by
  obtain ⟨hlt, _⟩ := List.getElem?_eq_some_iff.1 hj
  rw [tabsL_len] at hlt
  rw [tabsL_get hlt] at hj
  rw [ArrAt.cell h (by omega), shCellU_body (by omega) (by omega), Nat.add_comm 3 j]
  exact hj

/-- All tables are set. -/
theorem ShU.tables (h : ShU w s r p dir uv T) (T' : Nat → Tab) : ShU (w.setCells s 3 (tabsL T')) s r p dir uv T' := by
  refine ArrAt.ext (sets_at (tabsL T') 3 w _ h) (fun j hj => ?_)
  rw [tabsL_len]
  by_cases hin : 3 ≤ j ∧ j < 3 + 576
  · rw [if_pos hin, tabsL_at (by omega), show j - 3 + 3 = j by omega, shCellU_body (r := r) (p := p) (dir := dir) (T := T') (by omega) (by omega)]
  · rw [if_neg hin]
    unfold shCellU
    by_cases h0 : j = 0
    · simp [h0]
    by_cases h1 : j = 1
    · simp [h1]
    by_cases h2 : j = 2
    · simp [h2]
    have h3 : j = 579 := by omega
    simp [h3]

/-- The upper half's slice is set. -/
theorem ShU.upper (h : ShU w s r p dir uv T) (uv' : Value) : ShU (w.setCell ⟨s, 579, none⟩ uv') s r p dir uv' T := by
  refine ArrAt.ext (ArrAt.set h _ _) (fun j hj => ?_)
  unfold shCellU
  by_cases h3 : j = 579
  · simp [h3]
  · rw [if_neg h3, if_neg h3, if_neg h3]

/-- A shadow that is new. -/
theorem ShAt.u (h : ShAt w s r p dir T) : ShU w s r p dir (.slice none 0 0) T := ArrAt.ext h (fun j hj => rfl)

end
end Go.Proofs.Ytpinoejckagjbaa
