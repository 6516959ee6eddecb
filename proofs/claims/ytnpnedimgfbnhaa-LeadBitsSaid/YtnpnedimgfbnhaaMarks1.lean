/- The calls of the package marks, one by one: what each answers and what it leaves. -/
import Derived.Test.YtnpnedimgfbnhaaRows
import Derived.Test.YtnpnedimgfbnhaaSet
namespace Go.Proofs.Ytnpnedimgfbnhaa
open Go.RowKit Go.Mum
set_option maxRecDepth 100000

/-- Marks that New made. -/
structure MarksAt (w : World) (b m1 m2 : Nat) (n : Int) (s1 s2 : List Int) : Prop where
  blk : w.heap[b]? = some (.cells #[.int .i64 n, .map (some m1), .map (some m2)] 80 (0, 0))
  one : SetAt w m1 s1
  two : SetAt w m2 s2
  ne : m1 ≠ m2

section
variable {w x : World} {b m1 m2 : Nat} {n : Int} {s1 s2 : List Int}

theorem MarksAt.nb (h : MarksAt w b m1 m2 n s1 s2) : m1 ≠ b ∧ m2 ≠ b := by
  obtain ⟨h1, ⟨es, cl, h2, _⟩, ⟨es', cl', h3, _⟩, _⟩ := h
  constructor
  · rintro rfl; rw [h1] at h2; simp at h2
  · rintro rfl; rw [h1] at h3; simp at h3

theorem MarksAt.keep {l : List Nat} (h : MarksAt w b m1 m2 n s1 s2) (hk : Keep l w x) (hb : b ∉ l) (h1 : m1 ∉ l) (h2 : m2 ∉ l) : MarksAt x b m1 m2 n s1 s2 :=
  ⟨hk.heap h.blk hb, h.one.keep hk h1, h.two.keep hk h2, h.ne⟩

theorem MarksAt.cells (h : MarksAt w b m1 m2 n s1 s2) : w.cell? ⟨b, 0, none⟩ = some (.int .i64 n) ∧ w.cell? ⟨b, 1, none⟩ = some (.map (some m1)) ∧ w.cell? ⟨b, 2, none⟩ = some (.map (some m2)) :=
  ⟨cell_of h.blk 0 rfl, cell_of h.blk 1 rfl, cell_of h.blk 2 rfl⟩
end

theorem zeroBool (w : World) : (zeroValue 4).run Try.prog w = .ok (.bool false) w := by kernel_rfl

/-- The set of a kind. -/
def sel (kind : Int) (s1 s2 : List Int) : List Int := if kind = 1 then s1 else if kind = 2 then s2 else []

theorem sel_one (s1 s2 : List Int) : sel 1 s1 s2 = s1 := rfl
theorem sel_two (s1 s2 : List Int) : sel 2 s1 s2 = s2 := rfl
theorem sel_no {k : Int} (h1 : k ≠ 1) (h2 : k ≠ 2) (s1 s2 : List Int) : sel k s1 s2 = [] := by simp [sel, h1, h2]

section
variable {w : World} {b : Nat}

set_option maxHeartbeats 400000 in
theorem mset_nil (k : Int) (w : World) :
    Calls Try.prog 21 #[.pointer none, .int .i64 k] w fun e w' => e = .returned (.map none) ∧ w = w' := by
  go_enter Try.func21, Try.ntmps21
  go_wp2
  go_ret
  exact ⟨rfl, rfl⟩

set_option maxHeartbeats 400000 in
theorem mset_one {v : Value} (h : w.cell? ⟨b, 1, none⟩ = some v) :
    Calls Try.prog 21 #[.pointer (some ⟨b, 0, none⟩), .int .i64 1] w fun e w' => e = .returned v ∧ w = w' := by
  go_enter Try.func21, Try.ntmps21
  go_wp2
  go_ret
  exact ⟨rfl, rfl⟩

set_option maxHeartbeats 400000 in
theorem mset_two {v : Value} (h : w.cell? ⟨b, 2, none⟩ = some v) :
    Calls Try.prog 21 #[.pointer (some ⟨b, 0, none⟩), .int .i64 2] w fun e w' => e = .returned v ∧ w = w' := by
  go_enter Try.func21, Try.ntmps21
  go_wp2
  go_ret
  exact ⟨rfl, rfl⟩

set_option maxHeartbeats 400000 in
theorem mset_no (k : Int) (h1 : k ≠ 1) (h2 : k ≠ 2) (w : World) (b : Nat) :
    Calls Try.prog 21 #[.pointer (some ⟨b, 0, none⟩), .int .i64 k] w fun e w' => e = .returned (.map none) ∧ w = w' := by
  by_cases h : k < 1
  · clear h1 h2
    go_enter Try.func21, Try.ntmps21
    go_wp2
    go_ret
    exact ⟨rfl, rfl⟩
  · have h3 : 2 < k := by omega
    clear h1 h2
    go_enter Try.func21, Try.ntmps21
    go_wp2
    go_ret
    exact ⟨rfl, rfl⟩
end

/-- A receiver whose sets hold 's1' and 's2': one that New made; or one that is not there, or that no call made (both empty). -/
def Sets (w : World) (v : Value) (v1 v2 : Option Nat) : Prop :=
  (v = .pointer none ∧ v1 = none ∧ v2 = none) ∨ ∃ b, v = .pointer (some ⟨b, 0, none⟩) ∧ w.cell? ⟨b, 1, none⟩ = some (.map v1) ∧ w.cell? ⟨b, 2, none⟩ = some (.map v2)

def selM (kind : Int) (v1 v2 : Option Nat) : Option Nat := if kind = 1 then v1 else if kind = 2 then v2 else none

theorem mset_any {v : Value} {v1 v2 : Option Nat} {w : World} (h : Sets w v v1 v2) (k : Int) :
    Calls Try.prog 21 #[v, .int .i64 k] w fun e w' => e = .returned (.map (selM k v1 v2)) ∧ w = w' := by
  rcases h with ⟨rfl, rfl, rfl⟩ | ⟨b, rfl, h1, h2⟩
  · refine (mset_nil k w).mono fun e w' ⟨h1, h2⟩ => ⟨?_, h2⟩
    rw [h1]; simp [selM]
  · by_cases e1 : k = 1
    · subst e1; exact mset_one h1
    · by_cases e2 : k = 2
      · subst e2; exact mset_two h2
      · refine (mset_no k e1 e2 w b).mono fun e w' ⟨h1, h2⟩ => ⟨?_, h2⟩
        rw [h1]; simp [selM, e1, e2]

/-- What a map holds: none of them, nothing. -/
def Holds (w : World) (v : Option Nat) (s : List Int) : Prop := (v = none ∧ s = []) ∨ ∃ m, v = some m ∧ SetAt w m s

theorem holds_lookup {w : World} {v : Option Nat} {s : List Int} (h : Holds w v s) (f : Int) :
    (Instr.lookup 77 (.map v) (.int .i64 f) false).run Try.prog w = .ok (.bool (decide (f ∈ s))) w := by
  rcases h with ⟨rfl, rfl⟩ | ⟨m, rfl, h⟩
  · simpa using set_lookup_nil Try.underlying77 Try.underlying3 zeroBool w f
  · exact set_lookup Try.underlying77 Try.underlying3 zeroBool h f

theorem holds_sel {w : World} {v1 v2 : Option Nat} {s1 s2 : List Int} (h1 : Holds w v1 s1) (h2 : Holds w v2 s2) (k : Int) : Holds w (selM k v1 v2) (sel k s1 s2) := by
  unfold selM sel
  split
  · exact h1
  · split
    · exact h2
    · exact .inl ⟨rfl, rfl⟩

set_option maxHeartbeats 400000 in
theorem mhas_any {v : Value} {v1 v2 : Option Nat} {s1 s2 : List Int} {w : World} (h : Sets w v v1 v2) (h1 : Holds w v1 s1) (h2 : Holds w v2 s2) (f k : Int) :
    Calls Try.prog 39 #[v, .int .i64 f, .int .i64 k] w fun e w' => e = .returned (.bool (decide (f ∈ sel k s1 s2))) ∧ w = w' := by
  have hl := holds_lookup (holds_sel h1 h2 k) f
  have H := Lib.hid h
  clear h h1 h2
  go_enter Try.func39, Try.ntmps39
  go_wp2_with (go_at_call 21; refine (mset_any H.out k).mono ?_; rintro e w' ⟨rfl, rfl⟩)
  go_ret
  exact ⟨rfl, rfl⟩

set_option maxHeartbeats 400000 in
theorem mwatched_any {v : Value} {v1 v2 : Option Nat} {s1 s2 : List Int} {w : World} (h : Sets w v v1 v2) (h1 : Holds w v1 s1) (h2 : Holds w v2 s2) (f : Int) :
    Calls Try.prog 19 #[v, .int .i64 f] w fun e w' => e = .returned (.bool (decide (f ∈ s1) || decide (f ∈ s2))) ∧ w = w' := by
  have c1 := mhas_any h h1 h2 f 1
  have c2 := mhas_any h h1 h2 f 2
  rw [sel_one] at c1
  rw [sel_two] at c2
  clear h h1 h2
  have C1 := Lib.hid c1
  have C2 := Lib.hid c2
  clear c1 c2
  by_cases e : f ∈ s1
  · rw [decide_eq_true e] at C1
    simp only [e, decide_true, Bool.true_or]
    clear e
    go_enter Try.func19, Try.ntmps19
    go_wp2_with fail
    refine C1.out.mono ?_
    rintro e w' ⟨rfl, rfl⟩
    go_wp2_with fail
    go_ret
    exact ⟨rfl, rfl⟩
  · rw [decide_eq_false e] at C1
    simp only [e, decide_false, Bool.false_or]
    clear e
    go_enter Try.func19, Try.ntmps19
    go_wp2_with fail
    refine C1.out.mono ?_
    rintro e w' ⟨rfl, rfl⟩
    go_wp2_with fail
    refine C2.out.mono ?_
    rintro e w' ⟨rfl, rfl⟩
    go_wp2_with fail
    go_ret
    exact ⟨rfl, rfl⟩

/-- What Drop leaves. -/
def DropPost (f k : Int) (b m1 m2 : Nat) (n : Int) (s1 s2 : List Int) (w : World) (e : Ending) (w' : World) : Prop :=
  e = .returned (.tuple #[]) ∧ MarksAt w' b m1 m2 n (if k = 1 then s1.filter (· ≠ f) else s1) (if k = 2 then s2.filter (· ≠ f) else s2) ∧ Keep [m1, m2] w w'

theorem delete_nil {ty : TypeId} (f : Int) (w : World) : (Builtin.delete_ #[77, 3] ty #[.map none, .int .i64 f]).run Try.prog w = .ok (.tuple #[]) w := by
  simp [Builtin.delete_, run_underlying Try.underlying77, MapKept.run_checkKey Try.underlying3 (k := .int .i64 f) (by simp [MapKept.IsKey]), Result.andThen]

theorem clear_nil {ty : TypeId} (w : World) : (Builtin.clear_ #[77] ty #[.map none]).run Try.prog w = .ok (.tuple #[]) w := by
  simp [Builtin.clear_, run_underlying Try.underlying77, Result.andThen]

theorem MarksAt.sets {w : World} {b m1 m2 : Nat} {n : Int} {s1 s2 : List Int} (h : MarksAt w b m1 m2 n s1 s2) : Sets w (.pointer (some ⟨b, 0, none⟩)) (some m1) (some m2) :=
  .inr ⟨b, rfl, h.cells.2.1, h.cells.2.2⟩

/-- What Clear leaves. -/
def ClearPost (k : Int) (b m1 m2 : Nat) (n : Int) (s1 s2 : List Int) (w : World) (e : Ending) (w' : World) : Prop :=
  e = .returned (.tuple #[]) ∧ MarksAt w' b m1 m2 n (if k = 1 then [] else s1) (if k = 2 then [] else s2) ∧ Keep [m1, m2] w w'

/-- With one key more. -/
def ins (f : Int) (s : List Int) : List Int := if f ∈ s then s else s ++ [f]

theorem mem_ins {f x : Int} {s : List Int} : x ∈ ins f s ↔ x = f ∨ x ∈ s := by
  unfold ins
  split
  · rename_i h
    constructor
    · exact .inr
    · rintro (rfl | h'); exact h; exact h'
  · simp; exact ⟨fun h => h.symm, fun h => h.symm⟩

/-- What Mark leaves where a frame bears one. -/
def MarkPost (f k : Int) (b m1 m2 : Nat) (n : Int) (s1 s2 : List Int) (w : World) (e : Ending) (w' : World) : Prop :=
  e = .returned (.bool (! decide (f ∈ s1) && ! decide (f ∈ s2))) ∧ MarksAt w' b m1 m2 n (if k = 1 then ins f s1 else s1) (if k = 2 then ins f s2 else s2) ∧ Keep [m1, m2] w w'

set_option maxHeartbeats 1000000 in
theorem mmark_yes {w : World} {b m1 m2 : Nat} {n : Int} {s1 s2 : List Int} (h : MarksAt w b m1 m2 n s1 s2) (f k : Int) (hk : k = 1 ∨ k = 2) (h0 : 0 ≤ f) (h1 : f < n) :
    Calls Try.prog 9 #[.pointer (some ⟨b, 0, none⟩), .int .i64 f, .int .i64 k] w (MarkPost f k b m1 m2 n s1 s2 w) := by
  have C := Lib.hid (mset_any h.sets k)
  have W := Lib.hid (mwatched_any h.sets (.inr ⟨m1, rfl, h.one⟩) (.inr ⟨m2, rfl, h.two⟩) f)
  have qT := fun (w : World) (r : Option Nat) => run_eql_map_nil (P := Try.prog) w 77 3 4 r Try.underlying77
  obtain ⟨c0, _, _⟩ := h.cells
  rcases hk with rfl | rfl
  · obtain ⟨x, hd, hs, hk⟩ := set_update Try.underlying77 Try.underlying3 h.one f
    have Hfin : Hid (MarkPost f 1 b m1 m2 n s1 s2 w (.returned (.bool (! decide (f ∈ s1) && ! decide (f ∈ s2)))) x) := Lib.hid ⟨rfl, ⟨hk.heap h.blk (by simpa using h.nb.1.symm), by simpa [ins] using hs, by simpa using h.two.keep hk (by simpa using h.ne.symm), h.ne⟩, hk.weaken (by simp)⟩
    clear hs hk h
    go_enter Try.func9, Try.ntmps9
    go_wp2_with fail
    refine C.out.mono ?_
    rintro e w' ⟨rfl, rfl⟩
    simp only [selM, if_true]
    go_wp2_with fail
    refine W.out.mono ?_
    rintro e w' ⟨rfl, rfl⟩
    go_wp2_with fail
    go_ret
    exact Hfin.out
  · obtain ⟨x, hd, hs, hk⟩ := set_update Try.underlying77 Try.underlying3 h.two f
    have Hfin : Hid (MarkPost f 2 b m1 m2 n s1 s2 w (.returned (.bool (! decide (f ∈ s1) && ! decide (f ∈ s2)))) x) := Lib.hid ⟨rfl, ⟨hk.heap h.blk (by simpa using h.nb.2.symm), by simpa using h.one.keep hk (by simpa using h.ne), by simpa [ins] using hs, h.ne⟩, hk.weaken (by simp)⟩
    clear hs hk h
    go_enter Try.func9, Try.ntmps9
    go_wp2_with fail
    refine C.out.mono ?_
    rintro e w' ⟨rfl, rfl⟩
    simp only [selM, if_true, if_neg (by decide : ¬ (2 : Int) = 1)]
    go_wp2_with fail
    refine W.out.mono ?_
    rintro e w' ⟨rfl, rfl⟩
    go_wp2_with fail
    go_ret
    exact Hfin.out

set_option maxHeartbeats 1000000 in
theorem mmark_no {v : Value} {v1 v2 : Option Nat} {w : World} (h : Sets w v v1 v2) (f k : Int)
    (hno : selM k v1 v2 = none ∨ (∃ b n, v = .pointer (some ⟨b, 0, none⟩) ∧ w.cell? ⟨b, 0, none⟩ = some (.int .i64 n) ∧ (f < 0 ∨ n ≤ f))) :
    Calls Try.prog 9 #[v, .int .i64 f, .int .i64 k] w fun e w' => e = .returned (.bool false) ∧ w = w' := by
  have C := Lib.hid (mset_any h k)
  have qT := fun (w : World) (r : Option Nat) => run_eql_map_nil (P := Try.prog) w 77 3 4 r Try.underlying77
  clear h
  by_cases hs : selM k v1 v2 = none
  · rw [hs] at C
    clear hno hs
    go_enter Try.func9, Try.ntmps9
    go_wp2_with fail
    refine C.out.mono ?_
    rintro e w' ⟨rfl, rfl⟩
    go_wp2_with fail
    go_ret
    exact ⟨rfl, rfl⟩
  · obtain ⟨b, n, rfl, hc, hf⟩ : ∃ b n, v = .pointer (some ⟨b, 0, none⟩) ∧ w.cell? ⟨b, 0, none⟩ = some (.int .i64 n) ∧ (f < 0 ∨ n ≤ f) := by
      rcases hno with h | h
      · exact absurd h hs
      · exact h
    obtain ⟨m, hm⟩ := Option.ne_none_iff_exists'.1 hs
    rw [hm] at C
    clear hno hs hm
    by_cases h0 : f < 0
    · clear hf
      go_enter Try.func9, Try.ntmps9
      go_wp2_with fail
      refine C.out.mono ?_
      rintro e w' ⟨rfl, rfl⟩
      go_wp2_with fail
      go_ret
      exact ⟨rfl, rfl⟩
    · have h1 : n ≤ f := by omega
      clear hf
      go_enter Try.func9, Try.ntmps9
      go_wp2_with fail
      refine C.out.mono ?_
      rintro e w' ⟨rfl, rfl⟩
      go_wp2_with fail
      go_ret
      exact ⟨rfl, rfl⟩

/-- What New makes. -/
def NewMarks (n : Int) (w : World) (e : Ending) (w' : World) : Prop :=
  ∃ b m1 m2, w.heap.size ≤ b ∧ w.heap.size ≤ m1 ∧ w.heap.size ≤ m2 ∧ e = .returned (.tuple #[.pointer (some ⟨b, 0, none⟩), .int .i64 0]) ∧ MarksAt w' b m1 m2 n [] [] ∧ Keep [] w w'

set_option maxHeartbeats 400000 in
theorem mnew_good (n : Int) (w : World) (h1 : 1 ≤ n) (h2 : n ≤ 64) :
    Calls Try.prog 8 #[.int .i64 n] w (NewMarks n w) := by
  have hmm := @run_makeMap Try.prog
  go_enter Try.func8, Try.ntmps8
  go_wp2
  all_goals try (exfalso; omega)
  go_ret2
  refine ⟨w.heap.size + 1 + 1, w.heap.size, w.heap.size + 1, by omega, by omega, by omega, rfl, ⟨heap_alloc_at _ (by simp), ?_, ?_, by omega⟩, (((Keep.refl _ _).alloc _).alloc _).alloc _⟩
  · exact (setAt_made w).keep (((Keep.refl [] _).alloc _).alloc _) (by simp)
  · exact SetAt.keep (w := (w.alloc (.map #[] 0)).alloc (.map #[] 0)) (m := w.heap.size + 1) (by have := setAt_made (w.alloc (.map #[] 0)); simpa using this) ((Keep.refl [] _).alloc _) (by simp)

set_option maxHeartbeats 400000 in
theorem mnew_bad (n : Int) (w : World) (h : n < 1 ∨ 64 < n) :
    Calls Try.prog 8 #[.int .i64 n] w fun e w' => e = .returned (.tuple #[.pointer none, .int .i64 2]) ∧ w = w' := by
  have hmm := @run_makeMap Try.prog
  go_enter Try.func8, Try.ntmps8
  go_wp2
  all_goals first | (exfalso; omega) | (go_ret2; exact ⟨rfl, rfl⟩)
end Go.Proofs.Ytnpnedimgfbnhaa
