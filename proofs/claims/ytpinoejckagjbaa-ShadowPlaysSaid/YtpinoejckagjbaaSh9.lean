/- The pages of a shadow: asked for by a function that goes on round by round. -/
import Derived.Test.YtpinoejckagjbaaSh8
import Derived.RangeFuncBox
import Derived.RangeFuncLeaves
import Derived.Shelf.Abstract
import Derived.OwnWalkIn
import Derived.TacticsInMore
import Derived.LoopNIn
import Derived.LoopIn
import Derived.Maps.AppendAt
namespace Go.Proofs.Ytpinoejckagjbaa
open Go.RowKit Go.Mum Go.Shelf
set_option linter.unusedVariables false
set_option linter.unusedSimpArgs false
set_option maxRecDepth 100000

attribute [local go_sem] Oper.semAt_some

section
variable {F : Fence} {n : Nat} {P : Program} {ops : Array Oper} {rest : List Oper} {op : Oper} {a : Act} {w : World} {Q : Exit → Act → World → Prop}

theorem wpListIn_load_mid (hgd : op.guard = none) (ty : TypeId) (x : Operand) (ho : op.op = .load ty x) (b o : Nat) (hx : a.eval x = .pointer (some ⟨b, o, none⟩)) (cs : List Value) (d : TypeDesc) (hc : w.rangeAt b o cs)
    (hu : P.underlying ty = some d) (hd : d.isRow = true) (hi : (P.info? ty).map (·.size) = some cs.length)
    (h : wpListIn F n P ops Q rest (a.put op.dst (.agg cs.toArray)) w) : wpListIn F n P ops Q (op :: rest) a w := by
  refine wpListIn_plain hgd fun K hK' => ?_
  have hr := run_loadAt_mid (P := P) w b o ty cs d hc hu hd hi
  unfold Oper.wpIn
  refine ⟨?_, ?_⟩
  · simp [Oper.about, ho]
  · rw [Oper.semAt_plain F _ _ (by rw [ho]; intro c hc'; cases hc')]
    simp [execOp, ho, hx, hr, Result.andThen]
    exact hK' _ _ h

theorem wpListIn_build (hgd : op.guard = none) (ty : TypeId) (parts : Array (Nat × Operand)) (ho : op.op = .build ty parts)
    (v : Value) (hv : (Instr.build ty (parts.map fun (i, x) => (i, a.eval x))).run P w = .ok v w) (h : wpListIn F n P ops Q rest (a.put op.dst v) w) : wpListIn F n P ops Q (op :: rest) a w := by
  refine wpListIn_plain hgd fun K hK' => ?_
  unfold Oper.wpIn
  refine ⟨?_, ?_⟩
  · simp [Oper.about, ho]
  · rw [Oper.semAt_plain F _ _ (by rw [ho]; intro c hc'; cases hc')]
    simp [execOp, ho, hv, Result.andThen]
    exact hK' _ _ h

theorem wpListIn_eql (hgd : op.guard = none) (ty tr : TypeId) (x y : Operand) (ho : op.op = .binOp .eql ty x y tr) (u v : Value) (hx : a.eval x = u) (hy : a.eval y = v) (b : Bool)
    (hr : ((do eqGuard .eql ty x y u v; binOp .eql ty u v) : Sem Value).run P w = .ok (.bool b) w) (h : wpListIn F n P ops Q rest (a.put op.dst (.bool b)) w) : wpListIn F n P ops Q (op :: rest) a w := by
  refine wpListIn_plain hgd fun K hK' => ?_
  unfold Oper.wpIn
  refine ⟨?_, ?_⟩
  · simp [Oper.about, ho]
  · rw [Oper.semAt_plain F _ _ (by rw [ho]; intro c hc'; cases hc')]
    simp only [execOp, ho, hx, hy, Sem.run_bind, hr, Result.andThen, Sem.run_pure] at *
    first
      | exact hK' _ _ h
      | (rw [hr]; exact hK' _ _ h)

theorem wpListIn_store_new (hgd : op.guard = none) (ty : TypeId) (x y : Operand) (ho : op.op = .store ty x y)
    (w0 : World) (c c' : Array Value) (hw : w = w0.alloc (.cells c ty)) (hx : a.eval x = .pointer (some ⟨w0.heap.size, 0, none⟩)) (hy : a.eval y = .agg c') (hi : (P.info? ty).map (·.size) = some c'.size) (hs : c.size = c'.size) (h1 : c'.all (·.oneCell') = true)
    (h : wpListIn F n P ops Q rest (a.put op.dst undef) (w0.alloc (.cells c' ty))) : wpListIn F n P ops Q (op :: rest) a w := by
  refine wpListIn_plain hgd fun K hK' => ?_
  subst hw
  have hr := run_storeAt_new (P := P) w0 ty c c' hi hs h1
  unfold Oper.wpIn
  refine ⟨?_, ?_⟩
  · simp [Oper.about, ho]
  · rw [Oper.semAt_plain F _ _ (by rw [ho]; intro c hc'; cases hc')]
    simp [execOp, ho, hx, hy, hr, Result.andThen]
    exact hK' _ _ h
end

/-- The entries of a table. -/
def entL (t : Tab) : List Value := (List.range 16).map (fun k => .int .u32 (t.en k : Nat))

theorem entL_len (t : Tab) : (entL t).length = 16 := by simp [entL]

theorem build_ents (w : World) : (Instr.build 107 #[]).run Try.prog w = .ok (.agg (entL tab0).toArray) w := by kernel_rfl


theorem eql_ents (x y : Operand) (w : World) : ((do eqGuard .eql 107 (.tmp 16) (.tmp 17) (.agg (entL tab0).toArray) (.agg (entL tab0).toArray); binOp .eql 107 (.agg (entL tab0).toArray) (.agg (entL tab0).toArray)) : Sem Value).run Try.prog w = .ok (.bool true) w := by kernel_rfl

theorem info_ents : (Try.prog.info? 107).map (·.size) = some 16 := by kernel_rfl

/-- The pages that each shows. -/
def EachOK (sv : Nat) (pl : List Int) (w : World) : Prop :=
  ∀ (n Bs : Nat) (w1 : World), 1 ≤ n → Below w.heap.size w w1 → Bs < w1.heap.size → w1.cell? ⟨Bs, 0, none⟩ = some (.pointer (some ⟨sv, 0, none⟩)) →
    SeqStopsK Fence.wide n Try.prog 84 #[.pointer (some ⟨Bs, 0, none⟩)] (fun x : Int => #[Value.int .u32 x]) (Below w.heap.size) (fun ys => ys = pl) (fun pre => pre <+: pl) 512 w1

theorem keep_grown {w x : World} (h : Go.Mum.Keep [] w x) : w.grownBy x none := ⟨h.os, h.tape, h.output, h.size, fun k hk _ => h.block k hk (by simp)⟩

theorem below_keep {B : Nat} {w x : World} (h : Below B w x) (hs : w.heap.size ≤ B) : Go.Mum.Keep [] w x := ⟨h.os, h.tape, h.output, h.size, fun k hk _ => h.block k (by omega)⟩

set_option maxHeartbeats 2000000 in
theorem each_none {w : World} {s r p : Nat} {dir : Int} (h : ShAt w s r p dir (fun _ => tab0)) : EachOK s [] w := by
  intro n Bs w1 hn hB hBs hcell l J Jx W hW hJ hJx hY h0
  have hkw : Go.Mum.Keep [] w W := below_keep (hB.trans (hW.mono hB.size)) (Nat.le_refl _)
  have hS : ShAt W s r p dir (fun _ => tab0) := h.keep hkw (by simp)
  have hc : W.cell? ⟨Bs, 0, none⟩ = some (.pointer (some ⟨s, 0, none⟩)) := (hW.cell (p := ⟨Bs, 0, none⟩) hBs).trans hcell
  have hr := hS.range
  have HJ : Hid (∀ z, Go.Mum.Keep [] W z → J [] z) := Lib.hid (fun z hz => hJ [] W z none h0 (keep_grown hz) (by intro r hr; cases hr))
  clear hY hJ hJx h0 hcell hS h hkw hW
  refine callsIn_of_wp Try.func84 rfl trivial ?_ rfl
  simp only [Try.ntmps84, List.size_toArray, List.length_cons, List.length_nil, Nat.reduceAdd, Nat.reduceSub, Array.replicate_succ, Array.replicate_zero, List.push_toArray, List.append_toArray, List.nil_append, List.cons_append]
  gi_wp2_with (refine wpListIn_load_mid rfl 110 (.tmp 9) rfl s 3 (by rfl) (tabsL (fun _ => tab0)) _ hr Try.underlying110 rfl (info_tabs' _) ?_)
  gi_loopw [11] (fun kv wr => ∃ k : Nat, kv = .int .i64 k ∧ k ≤ 32 ∧ Hid (Go.Mum.Keep [] W wr)) (fun kv _ => 32 - (intOf kv).toNat)
  case atStart => exact ⟨0, rfl, by omega, Lib.hid (Go.Mum.Keep.refl _ _)⟩
  case round =>
    obtain ⟨k, rfl, hk1, HR⟩ := hrel
    rename World => wo
    by_cases hk2 : k < 32
    · have hi : (k : Int) < 32 := by omega
      have hidx := index_tabs (fun _ => tab0) hk2
      have hidx : ∀ w, (Instr.index 110 (.agg (tabsL (fun _ => tab0)).toArray) (.int .i64 k)).run Try.prog w = .ok (.agg (tabL tab0).toArray) w := hidx
      have hrng : ∀ u : World, (u.alloc (.cells (tabL tab0).toArray 109)).rangeAt u.heap.size 2 (entL tab0) := fun u j v hj => by
        have hc : (u.alloc (.cells (tabL tab0).toArray 109)).heap[u.heap.size]? = some (.cells (tabL tab0).toArray 109 (0, 0)) := heap_alloc_same u _
        refine cell_of hc (2 + j) ?_
        rw [List.getElem?_toArray, Nat.add_comm 2 j]
        exact hj
      have hr1 := hrng wo
      have HT : Hid (∀ o, Go.Mum.Keep [] W (wo.alloc o)) := Lib.hid (fun o => HR.out.alloc o)
      clear hk2 hrng hr
      gi_wp2_with (first
        | (refine wpListIn_store_new rfl 109 (.tmp 4) (.tmp 14) rfl wo _ (tabL tab0).toArray rfl (by rfl) (by rfl) (by rw [List.size_toArray, tabL_len]; exact info_table) (by simp [tabL_len]) (tabL_one _) ?_)
        | (refine wpListIn_load_mid rfl 107 (.tmp 15) rfl wo.heap.size 2 (by rfl) (entL tab0) _ hr1 Try.underlying107 rfl (by rw [entL_len]; exact info_ents) ?_)
        | (refine wpListIn_build rfl 107 #[] rfl (.agg (entL tab0).toArray) (by exact build_ents _) ?_)
        | (refine wpListIn_eql rfl 107 107 (.tmp 16) (.tmp 17) rfl (.agg (entL tab0).toArray) (.agg (entL tab0).toArray) (by rfl) (by rfl) true (by exact eql_ents (.tmp 16) (.tmp 17) _) ?_))
      go_roundw
      case rel => exact ⟨k + 1, by go_num, by omega, Lib.hid (HT.out _)⟩
      case measure => simp [intOf]; omega
    · have hi : ¬ ((k : Int) < 32) := by omega
      gi_wp2
      go_end0
      exact ⟨⟨_, rfl⟩, .inl (HJ.out _ HR.out)⟩

theorem seach_at (s : Nat) (w : World) :
    Calls Try.prog 57 #[.pointer (some ⟨s, 0, none⟩)] w fun e w' => e = .returned (.func (.func 84) #[] #[.pointer (some ⟨w.heap.size, 0, none⟩)]) ∧ w' = w.alloc (.cells #[.pointer (some ⟨s, 0, none⟩)] 27) := by
  go_enter Try.func57, Try.ntmps57
  go_wp2
  go_ret
  exact ⟨rfl, rfl⟩

theorem info_u32 : (Try.prog.info? 22).map (fun i => (i.zero, i.size, i.bytes)) = some (some (.int .u32 0), 1, 4) := by kernel_rfl

def PagesPost (l : List Int) (w : World) (e : Ending) (w' : World) : Prop :=
  ∃ v, e = .returned v ∧ w'.ownsRow w.heap.size 22 1 v l.length (l.map (Value.int .u32)) ∧ Below w.heap.size w w'

set_option maxRecDepth 100000 in
set_option maxHeartbeats 2000000 in
theorem spages_at {w : World} {s : Nat} {r : Nat} {pl : List Int} (h : EachOK s pl w) (h0 : w.cell? ⟨s, 0, none⟩ = some (.pointer (some ⟨r, 0, none⟩))) :
    Calls Try.prog 23 #[.pointer (some ⟨s, 0, none⟩)] w (PagesPost pl w) := by
  refine (callsIn_wide (n := 3)).1 ?_
  obtain ⟨i0, hi, hz0, hz1, hz2⟩ := info_parts info_u32
  have E := Lib.hid (fun W => seach_at s W)
  have C0 := Lib.hid (snone_at h0)
  have H := Lib.hid h
  clear h
  refine callsIn_of_wp_marks Try.func23 rfl trivial ?_ rfl
  simp only [Try.ntmps23, List.size_toArray, List.length_cons, List.length_nil, Nat.reduceAdd, Nat.reduceSub, Array.replicate_succ, Array.replicate_zero, List.push_toArray, List.append_toArray, List.nil_append, List.cons_append]
  gi_wp2_with (first
    | (refine ⟨trivial, ?_⟩; gi_at_call 45; refine (callsIn_wide.2 C0.out).mono ?_; rintro e w' ⟨rfl, rfl⟩)
    | (refine ⟨trivial, ?_⟩; gi_at_call 57; refine (callsIn_wide.2 (E.out _)).mono ?_; rintro e w' ⟨rfl, rfl⟩))
  have bO := Boxed.new w 44 (.slice none 0 0)
  have hB0 : Below w.heap.size w ((w.alloc (.cells #[.slice none 0 0] 44)).alloc (.cells #[.pointer (some ⟨s, 0, none⟩)] 27)) := ((Below.refl _ w).alloc (Nat.le_refl _) _).alloc (by simp) _
  have c1 : ((w.alloc (.cells #[.slice none 0 0] 44)).alloc (.cells #[.pointer (some ⟨s, 0, none⟩)] 27)).cell? ⟨w.heap.size + 1, 0, none⟩ = some (.pointer (some ⟨s, 0, none⟩)) :=
    cell_of (heap_alloc_at _ (by simp)) 0 rfl
  refine wpIn_rangeFunc_ownG rfl (by omega) (gf := 84) (lb := #[.pointer (some ⟨w.heap.size + 1, 0, none⟩)]) rfl trivial (enters_of Try.func84 (by kernel_rfl) rfl)
    (H.out (3 - 1) (w.heap.size + 1) _ (by omega) hB0 (by simp) c1) belowK_t (belowK_b (by simp; omega)) (Below.refl _ _) (fun _ => rfl)
    (fun pre W => (∃ u, Boxed W w.heap.size 44 u ∧ W.ownsRow w.heap.size 22 1 u pre.length (pre.map (Value.int .u32)) ∧ (u = .slice none 0 0 ↔ pre = [])) ∧ Below w.heap.size w W)
    (fun _ _ _ => False)
    (OwnFrom.and (Own.from (holdsRow_own w.heap.size w.heap.size 44 22 1 (fun pre => pre.length) (fun pre => pre.map (Value.int .u32)) (fun pre u => u = .slice none 0 0 ↔ pre = [])) _) (ownFrom_below (Nat.le_refl _) (by simp; omega)))
    (fun _ _ _ _ _ hs _ _ => hs)
    ⟨⟨_, bO.alloc _, World.ownsRow_nil _ _ _ _, by simp⟩, hB0⟩
    (fun x => { tmps := #[.pointer (some ⟨s, 0, none⟩), undef, .slice none 0 0, .pointer (some ⟨w.heap.size, 0, none⟩), .int .u32 x, .pointer (some ⟨s, 0, none⟩), .bool false, .pointer (some ⟨s, 0, none⟩), .func (.func 84) #[] #[.pointer (some ⟨w.heap.size + 1, 0, none⟩)], .int .u32 x, undef, undef, undef, undef, undef], defers := [] }) ?assign ?body ?done ?stop
  case assign =>
    intro l x W K hK
    gi_wp2
    exact hK
  case body =>
    rintro l pre x W ⟨⟨u, hv, hrow, hnil⟩, hB⟩ hlt
    have hc := hv.cell
    gi_wp2_with (gi_at_builtin; refine wpListIn_append_own _ rfl _ _ 44 rfl w.heap.size 22 i0 (.int .u32 0) 1 4 Try.underlying44 hi hz0 hz1 hz2 rfl (by decide) _ _ _ rfl (hrow.alloc _) ⟨W.heap.size, 0, none⟩ 1 1 [.int .u32 x] rfl rfl (cell_one_new _ _ _) (by simp [Value.oneCell']) (by unfold maxLen; omega) (by omega) (by have := hB.size; simp; omega) ?_; intro v' w1 hown' hgrow _; obtain ⟨g', cap', rfl⟩ := ownsRow_succ hown'; obtain ⟨hv1, hv2, hr2, hk2, hb2⟩ := hv.appended (by decide) hrow hB.size (Nat.le_refl _) hown' hgrow; have hc1 := hv1.cell; have hf1 := hv1.frozen)
    exact ⟨hk2.from _, hb2, ⟨_, hv2, by simpa using hr2, by simp⟩, hB.trans hb2⟩
  case done =>
    rintro D ys W hD rfl ⟨⟨u, hv, hrow, hnil⟩, hB⟩ hK
    have hc := hv.cell
    gi_wp2
    refine ⟨by simp, .inl ⟨_, _, rfl, run_takeDeferred hK, ?_⟩⟩
    exact ⟨_, results_tmp rfl _ _ _, u, rfl, ownsRow_putObj hrow _ hK rfl, hB.trans (belowK_b (w := w) (Nat.le_refl _) W D _ _ (by simp at hD; omega) hK rfl rfl)⟩
  case stop =>
    rintro D c pre W _ _ h _
    exact h.elim

theorem spages_nil (w : World) : Calls Try.prog 23 #[.pointer none] w fun e w' => e = .returned (.slice none 0 0) ∧ w = w' := by
  go_enter Try.func23, Try.ntmps23
  go_wp2_with fail
  refine (snone_nil _).mono ?_
  rintro e w' ⟨rfl, rfl⟩
  go_wp2_with fail
  go_ret
  exact ⟨rfl, rfl⟩
end Go.Proofs.Ytpinoejckagjbaa
