/- The call List of the package marks: the frames that bear a mark, rising. -/
import Derived.Test.YtaanefkddmakeaaMarks1
import Derived.Test.YtaanefkddmakeaaArr
import Derived.RangeFuncBox
import Derived.RangeFuncLeaves
import Derived.Shelf.Abstract
import Derived.OwnWalkIn
import Derived.TacticsInMore
import Derived.LoopNIn
import Derived.LoopIn
import Derived.Maps.AppendAt
namespace Go.Proofs.Ytaanefkddmakeaa
open Go.RowKit Go.Mum Go.Shelf

attribute [local go_sem] Oper.semAt_some

/-- Those of the first n frames that are in s. -/
def kept (n : Nat) (s : List Int) : List Int := ((List.range n).map fun j : Nat => (j : Int)).filter (· ∈ s)

theorem kept_succ_in {n : Nat} {s : List Int} (h : (n : Int) ∈ s) : kept (n + 1) s = kept n s ++ [(n : Int)] := by
  simp [kept, List.range_succ, List.filter_append, h]
theorem kept_succ_out {n : Nat} {s : List Int} (h : ¬ (n : Int) ∈ s) : kept (n + 1) s = kept n s := by
  simp [kept, List.range_succ, List.filter_append, h]
theorem kept_le (n : Nat) (s : List Int) : (kept n s).length ≤ n := by
  have := List.length_filter_le (fun x => decide (x ∈ s)) ((List.range n).map fun j : Nat => (j : Int))
  simpa [kept] using this
theorem kept_nil (n : Nat) : kept n [] = [] := by simp [kept]
theorem kept_prefix {k n : Nat} (s : List Int) (h : k ≤ n) : kept k s <+: kept n s := by
  induction n with
  | zero => obtain rfl : k = 0 := by omega
            exact List.prefix_refl _
  | succ n ih =>
    by_cases e : k = n + 1
    · subst e; exact List.prefix_refl _
    · have := ih (by omega)
      by_cases hi : (n : Int) ∈ s
      · rw [kept_succ_in hi]; exact this.trans (List.prefix_append _ _)
      · rw [kept_succ_out hi]; exact this

theorem Holds.below {n₀ : Nat} {w x : World} {v : Option Nat} {s : List Int} (h : Holds w v s) (hv : ∀ m, v = some m → m < n₀) (hb : Below n₀ w x) : Holds x v s := by
  rcases h with h | ⟨m, rfl, h⟩
  · exact .inl h
  · exact .inr ⟨m, rfl, h.same (hb.block m (hv m rfl))⟩

set_option maxRecDepth 100000 in
set_option maxHeartbeats 1000000 in
/-- The function value that each hands back, asked with whatever body. -/
theorem each1 (n : Nat) (hn : 1 ≤ n) (l Bm Bk n₀ : Nat) (v : Value) (v1 v2 : Option Nat) (k : Int) (N : Nat) (s : List Int) (hN : N ≤ 64) (J Jx : List Int → World → Prop)
    (hY : ∀ pre x W, J pre W → pre.length < N → YieldAt Fence.wide (n - 1) Try.prog l #[.int .i64 x] W fun e W' =>
      (e = .returned (.bool true) ∧ J (pre ++ [x]) W' ∧ Below n₀ W W') ∨ (e = .returned (.bool false) ∧ Jx (pre ++ [x]) W'))
    (W : World) (hm : W.cell? ⟨Bm, 0, none⟩ = some v) (hk : W.cell? ⟨Bk, 0, none⟩ = some (.int .i64 k)) (hS : Sets W v v1 v2) (hH : Holds W (selM k v1 v2) s)
    (hlt : ∀ m, selM k v1 v2 = some m → m < n₀) (hfr : ∀ m, selM k v1 v2 = some m → ∃ b, v = .pointer (some ⟨b, 0, none⟩) ∧ W.cell? ⟨b, 0, none⟩ = some (.int .i64 N)) (h0 : J [] W) :
    CallsIn Fence.wide n Try.prog 41 #[.func (.yield l) #[] #[], .pointer (some ⟨Bm, 0, none⟩), .pointer (some ⟨Bk, 0, none⟩)] W fun e W' => (∃ v, e = .returned v) ∧
      ((∃ ys, ys = kept N s ∧ J ys W') ∨ (∃ pre, pre <+: kept N s ∧ Jx pre W')) := by
  have C := Lib.hid (mset_any hS k)
  have qT := fun (w : World) (r : Option Nat) => run_eql_map_nil (P := Try.prog) w 52 3 4 r Try.underlying52
  clear hS
  cases hsel : selM k v1 v2 with
  | none =>
    rw [hsel] at C hH
    have hs : s = [] := by
      rcases hH with ⟨_, h⟩ | ⟨m, h, _⟩
      · exact h
      · cases h
    subst hs
    clear hH hlt hfr hsel
    refine callsIn_of_wp Try.func41 rfl trivial ?_ rfl
    simp only [Try.ntmps41, List.size_toArray, List.length_cons, List.length_nil, Nat.reduceAdd, Nat.reduceSub, Array.replicate_succ, Array.replicate_zero, List.push_toArray, List.append_toArray, List.nil_append, List.cons_append]
    gi_wp2_with (refine ⟨trivial, ?_⟩; gi_at_call 34; refine (callsIn_wide.2 C.out).mono ?_; rintro e w' ⟨rfl, rfl⟩)
    refine bodyPost_ret (results_none rfl _ _ _) rfl ?_
    exact ⟨⟨_, rfl⟩, .inl ⟨[], (kept_nil N).symm, h0⟩⟩
  | some m =>
    rw [hsel] at C hH
    obtain ⟨b, rfl, hc⟩ := hfr m hsel
    have hmn := hlt m hsel
    have hset : SetAt W m s := by
      rcases hH with ⟨h, _⟩ | ⟨m', h, h'⟩
      · cases h
      · cases h; exact h'
    clear hH hlt hfr hsel
    refine callsIn_of_wp Try.func41 rfl trivial ?_ rfl
    simp only [Try.ntmps41, List.size_toArray, List.length_cons, List.length_nil, Nat.reduceAdd, Nat.reduceSub, Array.replicate_succ, Array.replicate_zero, List.push_toArray, List.append_toArray, List.nil_append, List.cons_append]
    gi_wp2_with (refine ⟨trivial, ?_⟩; gi_at_call 34; refine (callsIn_wide.2 C.out).mono ?_; rintro e w' ⟨rfl, rfl⟩)
    gi_loopw [5, 15] (fun _ i wr => ∃ j : Nat, j ≤ N ∧ i = .int .i64 j ∧ SetAt wr m s ∧ J (kept j s) wr) (fun _ i _ => N - (intOf i).toNat)
    case atStart => exact ⟨0, by omega, rfl, hset, h0⟩
    case round =>
      obtain ⟨j, hj, rfl, hst, hJ⟩ := hrel
      by_cases hjn : j < N
      · have hl := set_lookup Try.underlying52 Try.underlying3 zeroBool hst j
        by_cases hin : (j : Int) ∈ s
        · rw [decide_eq_true hin] at hl
          have hkl := kept_le j s
          obtain ⟨fn, tmps, assign, body, hy, hR⟩ := hY (kept j s) j wr hJ (by omega)
          have HS := Lib.hid (And.intro hst (kept_succ_in hin))
          clear hJ hst hin hkl hY
          gi_wp2
          refine hR.mono ?_
          rintro e W3 (⟨rfl, hJ3, hk3⟩ | ⟨rfl, hJx3⟩)
          · gi_wp2
            go_roundw
            case rel => exact ⟨j + 1, by omega, by go_num, HS.out.1.same (hk3.block m hmn), by rw [HS.out.2]; exact hJ3⟩
            case measure => simp [intOf]; omega
          · gi_wp2
            refine bodyPost_ret (results_none rfl _ _ _) rfl ?_
            exact ⟨⟨_, rfl⟩, .inr ⟨_, by rw [← HS.out.2]; exact kept_prefix s (by omega), hJx3⟩⟩
        · rw [decide_eq_false hin] at hl
          have HS := Lib.hid (And.intro hst (And.intro (kept_succ_out hin) hJ))
          clear hJ hst hin hY
          gi_wp2
          refine ⟨fun _ h => (by cases h), ?_⟩
          gi_wp2
          go_roundw
          case rel => exact ⟨j + 1, by omega, by go_num, HS.out.1, by rw [HS.out.2.1]; exact HS.out.2.2⟩
          case measure => simp [intOf]; omega
      · obtain rfl : j = N := by omega
        have HJ := Lib.hid hJ
        clear hJ hst hY
        gi_wp2
        go_end0
        exact ⟨⟨_, rfl⟩, .inl ⟨_, rfl, HJ.out⟩⟩

set_option maxHeartbeats 1000000 in
theorem each_at (v : Value) (hv : v = .pointer none ∨ ∃ b, v = .pointer (some ⟨b, 0, none⟩)) (k : Int) (w : World) :
    Calls Try.prog 37 #[v, .int .i64 k] w fun e w' => e = .returned (.func (.func 41) #[] #[.pointer (some ⟨w.heap.size, 0, none⟩), .pointer (some ⟨w.heap.size + 1, 0, none⟩)]) ∧ w' = (w.alloc (.cells #[v] 24)).alloc (.cells #[.int .i64 k] 3) := by
  rcases hv with rfl | ⟨b, rfl⟩
  all_goals
    go_enter Try.func37, Try.ntmps37
    go_wp2
    go_ret
    exact ⟨rfl, rfl⟩

/-- Who may be asked for a list: what the sets hold, and of how many frames. -/
structure Listed (w : World) (v : Value) (k : Int) (N : Nat) (s : List Int) : Prop where
  bound : N ≤ 64
  ex : ∃ v1 v2, Sets w v v1 v2 ∧ Holds w (selM k v1 v2) s ∧ (∀ m, selM k v1 v2 = some m → m < w.heap.size) ∧ (∀ m, selM k v1 v2 = some m → ∃ b, v = .pointer (some ⟨b, 0, none⟩) ∧ w.cell? ⟨b, 0, none⟩ = some (.int .i64 N))

theorem Listed.ptr {w : World} {v : Value} {k : Int} {N : Nat} {s : List Int} (h : Listed w v k N s) : v = .pointer none ∨ ∃ b, v = .pointer (some ⟨b, 0, none⟩) := by
  obtain ⟨v1, v2, h, _⟩ := h.ex
  rcases h with ⟨h, _⟩ | ⟨b, h, _⟩
  · exact .inl h
  · exact .inr ⟨b, h⟩

theorem each_stops (n : Nat) (hn : 1 ≤ n) (Bm Bk n₀ : Nat) (v : Value) (k : Int) (N : Nat) (s : List Int) (w0 w : World) (h : Listed w0 v k N s) (hn₀ : n₀ = w0.heap.size) (hb : Below n₀ w0 w) (hBm : Bm < w.heap.size) (hBk : Bk < w.heap.size)
    (hm : w.cell? ⟨Bm, 0, none⟩ = some v) (hk : w.cell? ⟨Bk, 0, none⟩ = some (.int .i64 k)) :
    SeqStopsK Fence.wide n Try.prog 41 #[.pointer (some ⟨Bm, 0, none⟩), .pointer (some ⟨Bk, 0, none⟩)] (fun x : Int => #[Value.int .i64 x]) (Below n₀) (fun ys => ys = kept N s) (fun pre => pre <+: kept N s) N w := by
  intro l J Jx W hW _ _ hY h0
  subst hn₀
  obtain ⟨v1, v2, hS, hH, hlt, hfr⟩ := h.ex
  have hB : Below w0.heap.size w0 W := hb.trans (hW.mono hb.size)
  have cellW : ∀ {a : Addr} {u : Value}, w0.cell? a = some u → W.cell? a = some u := fun {a} {u} hc => (hB.cell (World.block_lt_of_cell? w0 a hc)).trans hc
  refine each1 n hn l Bm Bk w0.heap.size v v1 v2 k N s h.bound J Jx hY W ((hW.cell (p := ⟨Bm, 0, none⟩) hBm).trans hm) ((hW.cell (p := ⟨Bk, 0, none⟩) hBk).trans hk) ?_ (Holds.below hH hlt hB) hlt ?_ h0
  · rcases hS with hS | ⟨b, hv, h1, h2⟩
    · exact .inl hS
    · exact .inr ⟨b, hv, cellW h1, cellW h2⟩
  · intro m hm
    obtain ⟨b, hv, hc⟩ := hfr m hm
    exact ⟨b, hv, cellW hc⟩

theorem info_int : (Try.prog.info? 3).map (fun i => (i.zero, i.size, i.bytes)) = some (some (.int .i64 0), 1, 8) := by kernel_rfl

def ListPost (l : List Int) (w : World) (e : Ending) (w' : World) : Prop :=
  ∃ v, e = .returned v ∧ w'.ownsRow w.heap.size 3 1 v l.length (l.map (Value.int .i64)) ∧ Below w.heap.size w w'

set_option maxRecDepth 100000 in
set_option maxHeartbeats 2000000 in
theorem mlist_any (v : Value) (k : Int) (N : Nat) (s : List Int) (w : World) (h : Listed w v k N s) :
    Calls Try.prog 23 #[v, .int .i64 k] w (ListPost (kept N s) w) := by
  refine (callsIn_wide (n := 3)).1 ?_
  obtain ⟨i0, hi, hz0, hz1, hz2⟩ := info_parts info_int
  have hbnd := h.bound
  have E := Lib.hid (fun W => each_at v h.ptr k W)
  have H := Lib.hid h
  clear h
  refine callsIn_of_wp_marks Try.func23 rfl trivial ?_ rfl
  simp only [Try.ntmps23, List.size_toArray, List.length_cons, List.length_nil, Nat.reduceAdd, Nat.reduceSub, Array.replicate_succ, Array.replicate_zero, List.push_toArray, List.append_toArray, List.nil_append, List.cons_append]
  gi_wp2_with (refine ⟨trivial, ?_⟩; gi_at_call 37; refine (callsIn_wide.2 (E.out _)).mono ?_; rintro e w' ⟨rfl, rfl⟩)
  have bO := Boxed.new w 43 (.slice none 0 0)
  have hB0 : Below w.heap.size w (((w.alloc (.cells #[.slice none 0 0] 43)).alloc (.cells #[v] 24)).alloc (.cells #[.int .i64 k] 3)) := (((Below.refl _ w).alloc (Nat.le_refl _) _).alloc (by simp) _).alloc (by simp; omega) _
  have c1 : (((w.alloc (.cells #[.slice none 0 0] 43)).alloc (.cells #[v] 24)).alloc (.cells #[.int .i64 k] 3)).cell? ⟨w.heap.size + 1, 0, none⟩ = some v :=
    cell_of (heap_alloc_other _ (heap_alloc_at _ (by simp))) 0 rfl
  have c2 : (((w.alloc (.cells #[.slice none 0 0] 43)).alloc (.cells #[v] 24)).alloc (.cells #[.int .i64 k] 3)).cell? ⟨w.heap.size + 1 + 1, 0, none⟩ = some (.int .i64 k) :=
    cell_of (heap_alloc_at _ (by simp)) 0 rfl
  refine wpIn_rangeFunc_ownG rfl (by omega) (gf := 41) (lb := #[.pointer (some ⟨w.heap.size + 1, 0, none⟩), .pointer (some ⟨w.heap.size + 1 + 1, 0, none⟩)]) rfl trivial (enters_of Try.func41 (by kernel_rfl) rfl)
    (each_stops (3 - 1) (by omega) (w.heap.size + 1) (w.heap.size + 1 + 1) w.heap.size v k N s w _ H.out rfl hB0 (by simp) (by simp) c1 c2) belowK_t (belowK_b (by simp; omega)) (Below.refl _ _) (fun _ => rfl)
    (fun pre W => (∃ u, Boxed W w.heap.size 43 u ∧ W.ownsRow w.heap.size 3 1 u pre.length (pre.map (Value.int .i64)) ∧ (u = .slice none 0 0 ↔ pre = [])) ∧ Below w.heap.size w W)
    (fun _ _ _ => False)
    (OwnFrom.and (Own.from (holdsRow_own w.heap.size w.heap.size 43 3 1 (fun pre => pre.length) (fun pre => pre.map (Value.int .i64)) (fun pre u => u = .slice none 0 0 ↔ pre = [])) _) (ownFrom_below (Nat.le_refl _) (by simp; omega)))
    (fun _ _ _ _ _ hs _ _ => hs)
    ⟨⟨_, (bO.alloc _).alloc _, World.ownsRow_nil _ _ _ _, by simp⟩, hB0⟩
    (fun x => { tmps := #[v, .int .i64 k, undef, undef, .slice none 0 0, .pointer (some ⟨w.heap.size, 0, none⟩), .int .i64 x, v, .int .i64 k, .func (.func 41) #[] #[.pointer (some ⟨w.heap.size + 1, 0, none⟩), .pointer (some ⟨w.heap.size + 1 + 1, 0, none⟩)], .int .i64 x, undef, undef, undef, undef, undef], defers := [] }) ?assign ?body ?done ?stop
  case assign =>
    intro l x W K hK
    gi_wp2
    exact hK
  case body =>
    rintro l pre x W ⟨⟨u, hv, hrow, hnil⟩, hB⟩ hlt
    have hc := hv.cell
    gi_wp2_with (gi_at_builtin; refine wpListIn_append_own _ rfl _ _ 43 rfl w.heap.size 3 i0 (.int .i64 0) 1 8 Try.underlying43 hi hz0 hz1 hz2 rfl (by decide) _ _ _ rfl (hrow.alloc _) ⟨W.heap.size, 0, none⟩ 1 1 [.int .i64 x] rfl rfl (cell_one_new _ _ _) (by simp [Value.oneCell']) (by unfold maxLen; omega) (by omega) (by have := hB.size; simp; omega) ?_; intro v' w1 hown' hgrow _; obtain ⟨g', cap', rfl⟩ := ownsRow_succ hown'; obtain ⟨hv1, hv2, hr2, hk2, hb2⟩ := hv.appended (by decide) hrow hB.size (Nat.le_refl _) hown' hgrow; have hc1 := hv1.cell; have hf1 := hv1.frozen)
    exact ⟨hk2.from _, hb2, ⟨_, hv2, by simpa using hr2, by simp⟩, hB.trans hb2⟩
  case done =>
    rintro D ys W hD rfl ⟨⟨u, hv, hrow, hnil⟩, hB⟩ hK
    have hc := hv.cell
    gi_wp2
    refine ⟨by simp, .inl ⟨_, _, rfl, run_takeDeferred hK, ?_⟩⟩
    exact ⟨_, results_tmp rfl _ _ _, u, rfl, ownsRow_putObj hrow _ hK rfl, hB.trans (belowK_b (w := w) (Nat.le_refl _) W D _ _ (by simp at hD; omega) hK rfl rfl)⟩
  case stop =>
    rintro D c pre W _ _ h _
    exact h.elim
end Go.Proofs.Ytaanefkddmakeaa
