/- Contracts of the functions that the law reaches, walked, and the plain laws on them (several texts in one). -/
import Derived.Test.YtnpnedimgfbnhaaRows
import Derived.ProofKit
import Derived.OpenShut
import Derived.ChangeArms
import Derived.DataReads
import Derived.Test.YtnpnedimgfbnhaaM09
import Derived.Test.YtnpnedimgfbnhaaM01

/- The calls of the package marks, one by one: what each answers and what it leaves. -/
namespace Go.Proofs.Ytnpnedimgfbnhaa
open Go.RowKit Go.Mum
set_option maxRecDepth 100000

/-- Marks that New made. -/
structure MarksAt (w : World) (b m1 m2 : Nat) (n : Int) (s1 s2 : List Int) : Prop where
  blk : w.heap[b]? = some (.cells #[.int .i64 n, .map (some m1), .map (some m2)] 80 (0, 0))
  one : SetAt w m1 s1
  two : SetAt w m2 s2
  ne : m1 ≠ m2

section
variable {w x : World} {b m1 m2 : Nat} {n : Int} {s1 s2 : List Int}

theorem MarksAt.nb (h : MarksAt w b m1 m2 n s1 s2) : m1 ≠ b ∧ m2 ≠ b := by
  obtain ⟨h1, ⟨es, cl, h2, _⟩, ⟨es', cl', h3, _⟩, _⟩ := h
  constructor
  · rintro rfl; rw [h1] at h2; simp at h2
  · rintro rfl; rw [h1] at h3; simp at h3

theorem MarksAt.keep {l : List Nat} (h : MarksAt w b m1 m2 n s1 s2) (hk : Keep l w x) (hb : b ∉ l) (h1 : m1 ∉ l) (h2 : m2 ∉ l) : MarksAt x b m1 m2 n s1 s2 :=
  ⟨hk.heap h.blk hb, h.one.keep hk h1, h.two.keep hk h2, h.ne⟩

theorem MarksAt.cells (h : MarksAt w b m1 m2 n s1 s2) : w.cell? ⟨b, 0, none⟩ = some (.int .i64 n) ∧ w.cell? ⟨b, 1, none⟩ = some (.map (some m1)) ∧ w.cell? ⟨b, 2, none⟩ = some (.map (some m2)) :=
  ⟨cell_of h.blk 0 rfl, cell_of h.blk 1 rfl, cell_of h.blk 2 rfl⟩
end

theorem zeroBool (w : World) : (zeroValue 4).run Try.prog w = .ok (.bool false) w := by kernel_rfl

/-- The set of a kind. -/
def sel (kind : Int) (s1 s2 : List Int) : List Int := if kind = 1 then s1 else if kind = 2 then s2 else []

theorem sel_one (s1 s2 : List Int) : sel 1 s1 s2 = s1 := rfl
theorem sel_two (s1 s2 : List Int) : sel 2 s1 s2 = s2 := rfl
theorem sel_no {k : Int} (h1 : k ≠ 1) (h2 : k ≠ 2) (s1 s2 : List Int) : sel k s1 s2 = [] := by simp [sel, h1, h2]

section
variable {w : World} {b : Nat}

set_option maxHeartbeats 400000 in
theorem mset_nil (k : Int) (w : World) :
    Calls Try.prog 21 #[.pointer none, .int .i64 k] w fun e w' => e = .returned (.map none) ∧ w = w' := by
  go_enter Try.func21, Try.ntmps21
  go_wp2
  go_ret
  exact ⟨rfl, rfl⟩

set_option maxHeartbeats 400000 in
theorem mset_one {v : Value} (h : w.cell? ⟨b, 1, none⟩ = some v) :
    Calls Try.prog 21 #[.pointer (some ⟨b, 0, none⟩), .int .i64 1] w fun e w' => e = .returned v ∧ w = w' := by
  go_enter Try.func21, Try.ntmps21
  go_wp2
  go_ret
  exact ⟨rfl, rfl⟩

set_option maxHeartbeats 400000 in
theorem mset_two {v : Value} (h : w.cell? ⟨b, 2, none⟩ = some v) :
    Calls Try.prog 21 #[.pointer (some ⟨b, 0, none⟩), .int .i64 2] w fun e w' => e = .returned v ∧ w = w' := by
  go_enter Try.func21, Try.ntmps21
  go_wp2
  go_ret
  exact ⟨rfl, rfl⟩

set_option maxHeartbeats 400000 in
theorem mset_no (k : Int) (h1 : k ≠ 1) (h2 : k ≠ 2) (w : World) (b : Nat) :
    Calls Try.prog 21 #[.pointer (some ⟨b, 0, none⟩), .int .i64 k] w fun e w' => e = .returned (.map none) ∧ w = w' := by
  by_cases h : k < 1
  · clear h1 h2
    go_enter Try.func21, Try.ntmps21
    go_wp2
    go_ret
    exact ⟨rfl, rfl⟩
  · have h3 : 2 < k := by omega
    clear h1 h2
    go_enter Try.func21, Try.ntmps21
    go_wp2
    go_ret
    exact ⟨rfl, rfl⟩
end

/-- A receiver whose sets hold 's1' and 's2': one that New made; or one that is not there, or that no call made (both empty). -/
def Sets (w : World) (v : Value) (v1 v2 : Option Nat) : Prop :=
  (v = .pointer none ∧ v1 = none ∧ v2 = none) ∨ ∃ b, v = .pointer (some ⟨b, 0, none⟩) ∧ w.cell? ⟨b, 1, none⟩ = some (.map v1) ∧ w.cell? ⟨b, 2, none⟩ = some (.map v2)

def selM (kind : Int) (v1 v2 : Option Nat) : Option Nat := if kind = 1 then v1 else if kind = 2 then v2 else none

theorem mset_any {v : Value} {v1 v2 : Option Nat} {w : World} (h : Sets w v v1 v2) (k : Int) :
    Calls Try.prog 21 #[v, .int .i64 k] w fun e w' => e = .returned (.map (selM k v1 v2)) ∧ w = w' := by
  rcases h with ⟨rfl, rfl, rfl⟩ | ⟨b, rfl, h1, h2⟩
  · refine (mset_nil k w).mono fun e w' ⟨h1, h2⟩ => ⟨?_, h2⟩
    rw [h1]; simp [selM]
  · by_cases e1 : k = 1
    · subst e1; exact mset_one h1
    · by_cases e2 : k = 2
      · subst e2; exact mset_two h2
      · refine (mset_no k e1 e2 w b).mono fun e w' ⟨h1, h2⟩ => ⟨?_, h2⟩
        rw [h1]; simp [selM, e1, e2]

/-- What a map holds: none of them, nothing. -/
def Holds (w : World) (v : Option Nat) (s : List Int) : Prop := (v = none ∧ s = []) ∨ ∃ m, v = some m ∧ SetAt w m s

theorem holds_lookup {w : World} {v : Option Nat} {s : List Int} (h : Holds w v s) (f : Int) :
    (Instr.lookup 77 (.map v) (.int .i64 f) false).run Try.prog w = .ok (.bool (decide (f ∈ s))) w := by
  rcases h with ⟨rfl, rfl⟩ | ⟨m, rfl, h⟩
  · simpa using set_lookup_nil Try.underlying77 Try.underlying3 zeroBool w f
  · exact set_lookup Try.underlying77 Try.underlying3 zeroBool h f

theorem holds_sel {w : World} {v1 v2 : Option Nat} {s1 s2 : List Int} (h1 : Holds w v1 s1) (h2 : Holds w v2 s2) (k : Int) : Holds w (selM k v1 v2) (sel k s1 s2) := by
  unfold selM sel
  split
  · exact h1
  · split
    · exact h2
    · exact .inl ⟨rfl, rfl⟩

set_option maxHeartbeats 400000 in
theorem mhas_any {v : Value} {v1 v2 : Option Nat} {s1 s2 : List Int} {w : World} (h : Sets w v v1 v2) (h1 : Holds w v1 s1) (h2 : Holds w v2 s2) (f k : Int) :
    Calls Try.prog 39 #[v, .int .i64 f, .int .i64 k] w fun e w' => e = .returned (.bool (decide (f ∈ sel k s1 s2))) ∧ w = w' := by
  have hl := holds_lookup (holds_sel h1 h2 k) f
  have H := Lib.hid h
  clear h h1 h2
  go_enter Try.func39, Try.ntmps39
  go_wp2_with (go_at_call 21; refine (mset_any H.out k).mono ?_; rintro e w' ⟨rfl, rfl⟩)
  go_ret
  exact ⟨rfl, rfl⟩

set_option maxHeartbeats 400000 in
theorem mwatched_any {v : Value} {v1 v2 : Option Nat} {s1 s2 : List Int} {w : World} (h : Sets w v v1 v2) (h1 : Holds w v1 s1) (h2 : Holds w v2 s2) (f : Int) :
    Calls Try.prog 19 #[v, .int .i64 f] w fun e w' => e = .returned (.bool (decide (f ∈ s1) || decide (f ∈ s2))) ∧ w = w' := by
  have c1 := mhas_any h h1 h2 f 1
  have c2 := mhas_any h h1 h2 f 2
  rw [sel_one] at c1
  rw [sel_two] at c2
  clear h h1 h2
  have C1 := Lib.hid c1
  have C2 := Lib.hid c2
  clear c1 c2
  by_cases e : f ∈ s1
  · rw [decide_eq_true e] at C1
    simp only [e, decide_true, Bool.true_or]
    clear e
    go_enter Try.func19, Try.ntmps19
    go_wp2_with fail
    refine C1.out.mono ?_
    rintro e w' ⟨rfl, rfl⟩
    go_wp2_with fail
    go_ret
    exact ⟨rfl, rfl⟩
  · rw [decide_eq_false e] at C1
    simp only [e, decide_false, Bool.false_or]
    clear e
    go_enter Try.func19, Try.ntmps19
    go_wp2_with fail
    refine C1.out.mono ?_
    rintro e w' ⟨rfl, rfl⟩
    go_wp2_with fail
    refine C2.out.mono ?_
    rintro e w' ⟨rfl, rfl⟩
    go_wp2_with fail
    go_ret
    exact ⟨rfl, rfl⟩

/-- What Drop leaves. -/
def DropPost (f k : Int) (b m1 m2 : Nat) (n : Int) (s1 s2 : List Int) (w : World) (e : Ending) (w' : World) : Prop :=
  e = .returned (.tuple #[]) ∧ MarksAt w' b m1 m2 n (if k = 1 then s1.filter (· ≠ f) else s1) (if k = 2 then s2.filter (· ≠ f) else s2) ∧ Keep [m1, m2] w w'

theorem delete_nil {ty : TypeId} (f : Int) (w : World) : (Builtin.delete_ #[77, 3] ty #[.map none, .int .i64 f]).run Try.prog w = .ok (.tuple #[]) w := by
  simp [Builtin.delete_, run_underlying Try.underlying77, MapKept.run_checkKey Try.underlying3 (k := .int .i64 f) (by simp [MapKept.IsKey]), Result.andThen]

theorem clear_nil {ty : TypeId} (w : World) : (Builtin.clear_ #[77] ty #[.map none]).run Try.prog w = .ok (.tuple #[]) w := by
  simp [Builtin.clear_, run_underlying Try.underlying77, Result.andThen]

theorem MarksAt.sets {w : World} {b m1 m2 : Nat} {n : Int} {s1 s2 : List Int} (h : MarksAt w b m1 m2 n s1 s2) : Sets w (.pointer (some ⟨b, 0, none⟩)) (some m1) (some m2) :=
  .inr ⟨b, rfl, h.cells.2.1, h.cells.2.2⟩

/-- What Clear leaves. -/
def ClearPost (k : Int) (b m1 m2 : Nat) (n : Int) (s1 s2 : List Int) (w : World) (e : Ending) (w' : World) : Prop :=
  e = .returned (.tuple #[]) ∧ MarksAt w' b m1 m2 n (if k = 1 then [] else s1) (if k = 2 then [] else s2) ∧ Keep [m1, m2] w w'

/-- With one key more. -/
def ins (f : Int) (s : List Int) : List Int := if f ∈ s then s else s ++ [f]

theorem mem_ins {f x : Int} {s : List Int} : x ∈ ins f s ↔ x = f ∨ x ∈ s := by
  unfold ins
  split
  · rename_i h
    constructor
    · exact .inr
    · rintro (rfl | h'); exact h; exact h'
  · simp; exact ⟨fun h => h.symm, fun h => h.symm⟩

/-- What Mark leaves where a frame bears one. -/
def MarkPost (f k : Int) (b m1 m2 : Nat) (n : Int) (s1 s2 : List Int) (w : World) (e : Ending) (w' : World) : Prop :=
  e = .returned (.bool (! decide (f ∈ s1) && ! decide (f ∈ s2))) ∧ MarksAt w' b m1 m2 n (if k = 1 then ins f s1 else s1) (if k = 2 then ins f s2 else s2) ∧ Keep [m1, m2] w w'

set_option maxHeartbeats 1000000 in
theorem mmark_yes {w : World} {b m1 m2 : Nat} {n : Int} {s1 s2 : List Int} (h : MarksAt w b m1 m2 n s1 s2) (f k : Int) (hk : k = 1 ∨ k = 2) (h0 : 0 ≤ f) (h1 : f < n) :
    Calls Try.prog 9 #[.pointer (some ⟨b, 0, none⟩), .int .i64 f, .int .i64 k] w (MarkPost f k b m1 m2 n s1 s2 w) := by
  have C := Lib.hid (mset_any h.sets k)
  have W := Lib.hid (mwatched_any h.sets (.inr ⟨m1, rfl, h.one⟩) (.inr ⟨m2, rfl, h.two⟩) f)
  have qT := fun (w : World) (r : Option Nat) => run_eql_map_nil (P := Try.prog) w 77 3 4 r Try.underlying77
  obtain ⟨c0, _, _⟩ := h.cells
  rcases hk with rfl | rfl
  · obtain ⟨x, hd, hs, hk⟩ := set_update Try.underlying77 Try.underlying3 h.one f
    have Hfin : Hid (MarkPost f 1 b m1 m2 n s1 s2 w (.returned (.bool (! decide (f ∈ s1) && ! decide (f ∈ s2)))) x) := Lib.hid ⟨rfl, ⟨hk.heap h.blk (by simpa using h.nb.1.symm), by simpa [ins] using hs, by simpa using h.two.keep hk (by simpa using h.ne.symm), h.ne⟩, hk.weaken (by simp)⟩
    clear hs hk h
    go_enter Try.func9, Try.ntmps9
    go_wp2_with fail
    refine C.out.mono ?_
    rintro e w' ⟨rfl, rfl⟩
    simp only [selM, if_true]
    go_wp2_with fail
    refine W.out.mono ?_
    rintro e w' ⟨rfl, rfl⟩
    go_wp2_with fail
    go_ret
    exact Hfin.out
  · obtain ⟨x, hd, hs, hk⟩ := set_update Try.underlying77 Try.underlying3 h.two f
    have Hfin : Hid (MarkPost f 2 b m1 m2 n s1 s2 w (.returned (.bool (! decide (f ∈ s1) && ! decide (f ∈ s2)))) x) := Lib.hid ⟨rfl, ⟨hk.heap h.blk (by simpa using h.nb.2.symm), by simpa using h.one.keep hk (by simpa using h.ne), by simpa [ins] using hs, h.ne⟩, hk.weaken (by simp)⟩
    clear hs hk h
    go_enter Try.func9, Try.ntmps9
    go_wp2_with fail
    refine C.out.mono ?_
    rintro e w' ⟨rfl, rfl⟩
    simp only [selM, if_true, if_neg (by decide : ¬ (2 : Int) = 1)]
    go_wp2_with fail
    refine W.out.mono ?_
    rintro e w' ⟨rfl, rfl⟩
    go_wp2_with fail
    go_ret
    exact Hfin.out

set_option maxHeartbeats 1000000 in
theorem mmark_no {v : Value} {v1 v2 : Option Nat} {w : World} (h : Sets w v v1 v2) (f k : Int)
    (hno : selM k v1 v2 = none ∨ (∃ b n, v = .pointer (some ⟨b, 0, none⟩) ∧ w.cell? ⟨b, 0, none⟩ = some (.int .i64 n) ∧ (f < 0 ∨ n ≤ f))) :
    Calls Try.prog 9 #[v, .int .i64 f, .int .i64 k] w fun e w' => e = .returned (.bool false) ∧ w = w' := by
  have C := Lib.hid (mset_any h k)
  have qT := fun (w : World) (r : Option Nat) => run_eql_map_nil (P := Try.prog) w 77 3 4 r Try.underlying77
  clear h
  by_cases hs : selM k v1 v2 = none
  · rw [hs] at C
    clear hno hs
    go_enter Try.func9, Try.ntmps9
    go_wp2_with fail
    refine C.out.mono ?_
    rintro e w' ⟨rfl, rfl⟩
    go_wp2_with fail
    go_ret
    exact ⟨rfl, rfl⟩
  · obtain ⟨b, n, rfl, hc, hf⟩ : ∃ b n, v = .pointer (some ⟨b, 0, none⟩) ∧ w.cell? ⟨b, 0, none⟩ = some (.int .i64 n) ∧ (f < 0 ∨ n ≤ f) := by
      rcases hno with h | h
      · exact absurd h hs
      · exact h
    obtain ⟨m, hm⟩ := Option.ne_none_iff_exists'.1 hs
    rw [hm] at C
    clear hno hs hm
    by_cases h0 : f < 0
    · clear hf
      go_enter Try.func9, Try.ntmps9
      go_wp2_with fail
      refine C.out.mono ?_
      rintro e w' ⟨rfl, rfl⟩
      go_wp2_with fail
      go_ret
      exact ⟨rfl, rfl⟩
    · have h1 : n ≤ f := by omega
      clear hf
      go_enter Try.func9, Try.ntmps9
      go_wp2_with fail
      refine C.out.mono ?_
      rintro e w' ⟨rfl, rfl⟩
      go_wp2_with fail
      go_ret
      exact ⟨rfl, rfl⟩

/-- What New makes. -/
def NewMarks (n : Int) (w : World) (e : Ending) (w' : World) : Prop :=
  ∃ b m1 m2, w.heap.size ≤ b ∧ w.heap.size ≤ m1 ∧ w.heap.size ≤ m2 ∧ e = .returned (.tuple #[.pointer (some ⟨b, 0, none⟩), .int .i64 0]) ∧ MarksAt w' b m1 m2 n [] [] ∧ Keep [] w w'

set_option maxHeartbeats 400000 in
theorem mnew_good (n : Int) (w : World) (h1 : 1 ≤ n) (h2 : n ≤ 64) :
    Calls Try.prog 8 #[.int .i64 n] w (NewMarks n w) := by
  have hmm := @run_makeMap Try.prog
  go_enter Try.func8, Try.ntmps8
  go_wp2
  all_goals try (exfalso; omega)
  go_ret2
  refine ⟨w.heap.size + 1 + 1, w.heap.size, w.heap.size + 1, by omega, by omega, by omega, rfl, ⟨heap_alloc_at _ (by simp), ?_, ?_, by omega⟩, (((Keep.refl _ _).alloc _).alloc _).alloc _⟩
  · exact (setAt_made w).keep (((Keep.refl [] _).alloc _).alloc _) (by simp)
  · exact SetAt.keep (w := (w.alloc (.map #[] 0)).alloc (.map #[] 0)) (m := w.heap.size + 1) (by have := setAt_made (w.alloc (.map #[] 0)); simpa using this) ((Keep.refl [] _).alloc _) (by simp)

set_option maxHeartbeats 400000 in
theorem mnew_bad (n : Int) (w : World) (h : n < 1 ∨ 64 < n) :
    Calls Try.prog 8 #[.int .i64 n] w fun e w' => e = .returned (.tuple #[.pointer none, .int .i64 2]) ∧ w = w' := by
  have hmm := @run_makeMap Try.prog
  go_enter Try.func8, Try.ntmps8
  go_wp2
  all_goals first | (exfalso; omega) | (go_ret2; exact ⟨rfl, rfl⟩)
end Go.Proofs.Ytnpnedimgfbnhaa

/- What an argument that can be read as data looks like in memory, by its type; no slice is longer than B. -/
namespace Go.Proofs.Ytnpnedimgfbnhaa
open Go.RowKit Go.Mum Go.ChangeShapes Go.WideShapes

/-- The cells 'cs' are a value of the type t, and what it leads to is too; no slice is longer than B. -/
def Fits (P : Program) (w : World) (B : Nat) : Nat → TypeId → List Value → Prop
  | 0, _, _ => False
  | n + 1, t, cs => match P.underlying t with
    | some .bool => ∃ b, cs = [.bool b]
    | some (.int k) => ∃ z, cs = [.int k z] ∧ (Lit.int k z).wf = true
    | some .string => ∃ s : ByteArray, cs = [.string s] ∧ s.size ≤ maxLen
    | some (.struct fs) => cs.length = P.cellsOf t ∧ ∀ f ∈ fs.toList, Fits P w B n f.type ((cs.drop f.offset).take (P.cellsOf f.type))
    | some (.array len e) => cs.length = P.cellsOf t ∧ ∀ i, i < len → Fits P w B n e ((cs.drop (i * P.cellsOf e)).take (P.cellsOf e))
    | some (.slice e) => cs = [.slice none 0 0] ∨ ∃ a len cap, cs = [.slice (some a) len cap] ∧ len ≤ cap ∧ cap ≤ maxLen ∧ len ≤ B ∧
        ∀ i, i < len → ∃ ds, w.cells? 0 (a.add (i * P.cellsOf e)) (P.cellsOf e) = some ds ∧ Fits P w B n e ds
    | _ => True

theorem bulkAll_of_mem {H : Type} : ∀ {l : List (DataW H)} {d : DataW H}, d ∈ l → Rows.uptoBulk d ≤ Rows.uptoBulkAll l
  | x :: r, d, h => by
    unfold Rows.uptoBulkAll
    rcases List.mem_cons.1 h with rfl | h
    · omega
    · have := bulkAll_of_mem h; omega

theorem bulk_pos {H : Type} (d : DataW H) : 1 ≤ Rows.uptoBulk d := by
  unfold Rows.uptoBulk
  split <;> omega

theorem bulkAll_length {H : Type} : ∀ l : List (DataW H), l.length ≤ Rows.uptoBulkAll l
  | [] => Nat.zero_le _
  | x :: r => by
    unfold Rows.uptoBulkAll
    have h1 := bulk_pos x
    have h2 := bulkAll_length r
    simp only [List.length_cons]
    omega

section
variable {H : Type} {enc : TypeId × Value → H} {P : Program} {w : World} {spare : Nat → Bool} {held : Bool} {B : Nat}

theorem fits_of_trod : ∀ (fuel : Nat) (t : TypeId) (cs : List Value) (x : DataW H × List MemPlace), DataW.trod enc P w 0 spare held fuel t cs = some x →
    (maxLen ≤ B ∨ Rows.uptoBulk x.1 ≤ B) → Fits P w B fuel t cs
  | 0, _, _, _, h, _ => by simp [DataW.trod] at h
  | n + 1, t, cs, x, h, hb => by
    unfold Fits
    split
    · rename_i hu
      rw [DataW.trod_step] at h
      unfold DataW.trodStep at h
      rw [hu] at h
      split at h <;> simp_all
    · rename_i k hu
      rw [DataW.trod_step] at h
      unfold DataW.trodStep at h
      rw [hu] at h
      split at h <;> simp_all
    · rename_i hu
      rw [DataW.trod_step] at h
      unfold DataW.trodStep at h
      rw [hu] at h
      split at h <;> simp_all
    · rename_i fs hu
      obtain ⟨xs, m, hm, rfl, hl, hlen, hf⟩ := DataW.trod_struct hu h
      obtain rfl : n = m := by omega
      refine ⟨hl, fun f hfm => ?_⟩
      obtain ⟨i, hi⟩ := List.getElem?_of_mem hfm
      have hi' : fs[i]? = some f := by simpa using hi
      have hil : i < xs.length := by rw [hlen]; exact (Array.getElem?_eq_some_iff.1 hi').1
      have := hf i f hi'
      rw [List.getElem?_eq_getElem hil] at this
      refine fits_of_trod n _ _ _ this ?_
      rcases hb with hb | hb
      · exact .inl hb
      · right
        unfold Rows.uptoBulk at hb
        have := bulkAll_of_mem (List.mem_map.2 ⟨xs[i], List.getElem_mem hil, rfl⟩ : xs[i].1 ∈ xs.map (·.1))
        omega
    · rename_i len e hu
      obtain ⟨xs, m, hm, rfl, hl, hlen, hf⟩ := DataW.trod_array hu h
      obtain rfl : n = m := by omega
      refine ⟨hl, fun i hi => ?_⟩
      have hil : i < xs.length := by omega
      have := hf i hi
      rw [List.getElem?_eq_getElem hil] at this
      refine fits_of_trod n _ _ _ this ?_
      rcases hb with hb | hb
      · exact .inl hb
      · right
        unfold Rows.uptoBulk at hb
        have := bulkAll_of_mem (List.mem_map.2 ⟨xs[i], List.getElem_mem hil, rfl⟩ : xs[i].1 ∈ xs.map (·.1))
        omega
    · rename_i e hu
      rcases DataW.trod_slice hu h with ⟨rfl, _⟩ | ⟨a, len, cap, elems, rest, m, hm, rfl, rfl, _, hl, hmx, hlen, hel, _⟩
      · exact .inl rfl
      · obtain rfl : n = m := by omega
        refine .inr ⟨a, len, cap, rfl, hl, hmx, ?_, fun i hi => ?_⟩
        · rcases hb with hb | hb
          · omega
          · unfold Rows.uptoBulk at hb
            have := bulkAll_length (elems.map (·.1))
            simp only [List.length_map] at this
            omega
        · have hil : i < elems.length := by omega
          have := hel i hi
          rw [List.getElem?_eq_getElem hil] at this
          obtain ⟨ds, h1, h2⟩ := Option.bind_eq_some_iff.1 this
          refine ⟨ds, h1, fits_of_trod n _ _ _ h2 ?_⟩
          rcases hb with hb | hb
          · exact .inl hb
          · right
            unfold Rows.uptoBulk at hb
            have := bulkAll_of_mem (List.mem_map.2 ⟨elems[i], List.getElem_mem hil, rfl⟩ : elems[i].1 ∈ elems.map (·.1))
            omega
    · trivial

/-- An argument as it comes in. -/
theorem fits_of_arg {t : TypeId} {v : Value} {d : DataW H} {p : List MemPlace} (h : DataW.Trod enc P w 0 spare held t v d p) (hb : maxLen ≤ B ∨ Rows.uptoBulk d ≤ B) : ∃ n, Fits P w B n t v.cells.toList := by
  obtain ⟨fuel, hf⟩ := h
  exact ⟨fuel, fits_of_trod fuel t _ _ hf hb⟩
end

theorem okWide_array {P : Program} {w : World} {r : Reach} {base : Nat} {t : TypeId} {v : Value} {n : Nat} {e : TypeId} (ht : P.underlying t = some (.array n e)) (h : Value.okWide P w r base t v) : ∃ cs, v = .agg cs := by
  simp only [Value.okWide, ht] at h
  obtain ⟨cs, h1, _⟩ := h
  exact ⟨cs, h1⟩

section
variable {P : Program} {w : World} {B n : Nat} {t e : TypeId} {cs : List Value}

theorem Fits.int {k : IntKind} (h : Fits P w B n t cs) (ht : P.underlying t = some (.int k)) : ∃ z, cs = [.int k z] ∧ (Lit.int k z).wf = true := by
  cases n with
  | zero => exact h.elim
  | succ n => unfold Fits at h; rw [ht] at h; exact h

theorem Fits.bool (h : Fits P w B n t cs) (ht : P.underlying t = some .bool) : ∃ b, cs = [.bool b] := by
  cases n with
  | zero => exact h.elim
  | succ n => unfold Fits at h; rw [ht] at h; exact h

theorem Fits.struct {fs : Array Field} (h : Fits P w B n t cs) (ht : P.underlying t = some (.struct fs)) : ∃ m, cs.length = P.cellsOf t ∧ ∀ f ∈ fs.toList, Fits P w B m f.type ((cs.drop f.offset).take (P.cellsOf f.type)) := by
  cases n with
  | zero => exact h.elim
  | succ n => unfold Fits at h; rw [ht] at h; exact ⟨n, h⟩

theorem Fits.array {len : Nat} (h : Fits P w B n t cs) (ht : P.underlying t = some (.array len e)) : ∃ m, cs.length = P.cellsOf t ∧ ∀ i, i < len → Fits P w B m e ((cs.drop (i * P.cellsOf e)).take (P.cellsOf e)) := by
  cases n with
  | zero => exact h.elim
  | succ n => unfold Fits at h; rw [ht] at h; exact ⟨n, h⟩

theorem Fits.slice {a : Option Addr} {len cap : Nat} (h : Fits P w B n t [.slice a len cap]) (ht : P.underlying t = some (.slice e)) :
    (a = none ∧ len = 0 ∧ cap = 0) ∨ ∃ b m, a = some b ∧ len ≤ cap ∧ cap ≤ maxLen ∧ len ≤ B ∧ ∀ i, i < len → ∃ ds, w.cells? 0 (b.add (i * P.cellsOf e)) (P.cellsOf e) = some ds ∧ Fits P w B m e ds := by
  cases n with
  | zero => exact h.elim
  | succ n =>
    unfold Fits at h
    rw [ht] at h
    rcases h with h | ⟨b, l, c, h, h1, h2, h3, h4⟩
    · simp at h; exact .inl h
    · simp at h
      obtain ⟨rfl, rfl, rfl⟩ := h
      exact .inr ⟨b, n, rfl, h1, h2, h3, h4⟩
end

/-- The elements of a slice that came in, cell by cell. -/
theorem Fits.rows {P : Program} {w : World} {B n : Nat} {t e : TypeId} {a : Option Addr} {len cap : Nat} (h : Fits P w B n t [.slice a len cap]) (ht : P.underlying t = some (.slice e)) (c : Nat) (hc : P.cellsOf e = c) (h0 : 0 < c) :
    len = 0 ∨ ∃ b off m, a = some ⟨b, off, none⟩ ∧ 0 < len ∧ len ≤ cap ∧ cap ≤ maxLen ∧ len ≤ B ∧ b < w.heap.size ∧
      ∀ i, i < len → ∃ ds : List Value, ds.length = c ∧ (∀ j, j < c → w.cell? ⟨b, off + i * c + j, none⟩ = ds[j]?) ∧ Fits P w B m e ds := by
  rcases h.slice ht with ⟨_, h1, _⟩ | ⟨a, m, rfl, h1, h2, h3, h4⟩
  · exact .inl h1
  · by_cases hl : len = 0
    · exact .inl hl
    · right
      rw [hc] at h4
      have key : a.spot = none ∧ a.block < w.heap.size := by
        obtain ⟨ds, hd, _⟩ := h4 0 (by omega)
        obtain ⟨_, hlen, hcell⟩ := World.cells?_some hd
        have h00 := hcell 0 (by omega)
        rw [List.getElem?_eq_getElem (by omega)] at h00
        simp only [Nat.zero_mul, Addr.add, if_true] at h00
        refine ⟨?_, World.block_lt_of_cell? w a h00⟩
        unfold World.cell? at h00
        cases hs : a.spot with
        | none => rfl
        | some q =>
          split at h00
          · simp [hs] at h00
          · simp at h00
      obtain ⟨b, off, sp⟩ := a
      obtain ⟨hsp, hlt⟩ := key
      simp only at hsp hlt
      subst hsp
      refine ⟨b, off, m, rfl, by omega, h1, h2, h3, hlt, fun i hi => ?_⟩
      obtain ⟨ds, hd, hf⟩ := h4 i hi
      obtain ⟨_, hlen, hcell⟩ := World.cells?_some hd
      refine ⟨ds, hlen, fun j hj => ?_, hf⟩
      have := hcell j hj
      rw [Addr.add_lit, Addr.add_lit] at this
      exact this

theorem Fits.ints {P : Program} {w : World} {B n : Nat} {t e : TypeId} {k : IntKind} {a : Option Addr} {len cap : Nat} (h : Fits P w B n t [.slice a len cap]) (ht : P.underlying t = some (.slice e)) (he : P.underlying e = some (.int k)) (hc : P.cellsOf e = 1) :
    len = 0 ∨ ∃ b off, a = some ⟨b, off, none⟩ ∧ 0 < len ∧ len ≤ cap ∧ cap ≤ maxLen ∧ len ≤ B ∧ b < w.heap.size ∧ ∃ z : Nat → Int, ∀ i, i < len → w.cell? ⟨b, off + i, none⟩ = some (.int k (z i)) ∧ (Lit.int k (z i)).wf = true := by
  rcases h.rows ht 1 hc (by omega) with h0 | ⟨b, off, m, rfl, h0, h1, h2, h3, h4, h5⟩
  · exact .inl h0
  · right
    have each : ∀ i, ∃ z, i < len → w.cell? ⟨b, off + i, none⟩ = some (.int k z) ∧ (Lit.int k z).wf = true := by
      intro i
      by_cases hi : i < len
      · obtain ⟨ds, hd, hcell, hf⟩ := h5 i hi
        obtain ⟨z, rfl, hz⟩ := hf.int he
        have := hcell 0 (by omega)
        simp only [Nat.mul_one, Nat.add_zero, List.getElem?_cons_zero] at this
        exact ⟨z, fun _ => ⟨this, hz⟩⟩
      · exact ⟨0, fun h => absurd h hi⟩
    exact ⟨b, off, rfl, h0, h1, h2, h3, h4, fun i => (each i).choose, fun i hi => (each i).choose_spec hi⟩

theorem wf_i64 {z : Int} (h : (Lit.int .i64 z).wf = true) : -9223372036854775808 ≤ z ∧ z ≤ 9223372036854775807 := by simp only [Lit.wf, IntKind.min, IntKind.max, IntKind.signed, IntKind.bits, Bool.and_eq_true, decide_eq_true_eq] at h; simp at h; exact h
theorem wf_u32 {z : Int} (h : (Lit.int .u32 z).wf = true) : 0 ≤ z ∧ z ≤ 4294967295 := by simp only [Lit.wf, IntKind.min, IntKind.max, IntKind.signed, IntKind.bits, Bool.and_eq_true] at h; simp at h; exact h
theorem wf_u8 {z : Int} (h : (Lit.int .u8 z).wf = true) : 0 ≤ z ∧ z ≤ 255 := by simp only [Lit.wf, IntKind.min, IntKind.max, IntKind.signed, IntKind.bits, Bool.and_eq_true] at h; simp at h; exact h
theorem wf_u64 {z : Int} (h : (Lit.int .u64 z).wf = true) : 0 ≤ z ∧ z ≤ 18446744073709551615 := by simp only [Lit.wf, IntKind.min, IntKind.max, IntKind.signed, IntKind.bits, Bool.and_eq_true] at h; simp at h; exact h

end Go.Proofs.Ytnpnedimgfbnhaa

/- The law MarksApart, walked; and that a frame is marked. -/
namespace Go.Proofs.Ytnpnedimgfbnhaa
open Go.RowKit Go.Mum
set_option maxRecDepth 100000

/-- May a frame bear a mark of the kind? -/
def fits (n f k : Int) : Prop := (k = 1 ∨ k = 2) ∧ 0 ≤ f ∧ f < n
instance (n f k : Int) : Decidable (fits n f k) := by unfold fits; infer_instance

def mark1 (n f k : Int) (s1 : List Int) : List Int := if k = 1 ∧ fits n f k then ins f s1 else s1
def mark2 (n f k : Int) (s2 : List Int) : List Int := if k = 2 ∧ fits n f k then ins f s2 else s2

def MarkAny (f k : Int) (b m1 m2 : Nat) (n : Int) (s1 s2 : List Int) (w : World) (e : Ending) (w' : World) : Prop :=
  e = .returned (.bool (decide (fits n f k) && (! decide (f ∈ s1) && ! decide (f ∈ s2)))) ∧ MarksAt w' b m1 m2 n (mark1 n f k s1) (mark2 n f k s2) ∧ Keep [m1, m2] w w'

theorem mmark_any {w : World} {b m1 m2 : Nat} {n : Int} {s1 s2 : List Int} (h : MarksAt w b m1 m2 n s1 s2) (f k : Int) :
    Calls Try.prog 9 #[.pointer (some ⟨b, 0, none⟩), .int .i64 f, .int .i64 k] w (MarkAny f k b m1 m2 n s1 s2 w) := by
  by_cases hv : fits n f k
  · refine (mmark_yes h f k hv.1 hv.2.1 hv.2.2).mono ?_
    rintro e w' ⟨h1, h2, h3⟩
    refine ⟨by simpa [hv] using h1, ?_, h3⟩
    unfold mark1 mark2
    simpa [hv] using h2
  · have : Calls Try.prog 9 #[.pointer (some ⟨b, 0, none⟩), .int .i64 f, .int .i64 k] w fun e w' => e = .returned (.bool false) ∧ w = w' := by
      refine mmark_no h.sets f k ?_
      by_cases hk : k = 1 ∨ k = 2
      · exact .inr ⟨b, n, rfl, h.cells.1, by unfold fits at hv; omega⟩
      · left
        have h1 : k ≠ 1 := fun e => hk (.inl e)
        have h2 : k ≠ 2 := fun e => hk (.inr e)
        simp [selM, h1, h2]
    refine this.mono ?_
    rintro e w' ⟨h1, rfl⟩
    refine ⟨by simpa [hv] using h1, ?_, Keep.refl _ _⟩
    unfold mark1 mark2
    simpa [hv] using h

/-- What the second call leaves. -/
def after1 (n : Int) (b : Int × Int × Int) (s1 : List Int) : List Int :=
  if b.1 = 0 then mark1 n b.2.1 b.2.2 s1 else if b.1 = 1 then (if b.2.2 = 1 then s1.filter (· ≠ b.2.1) else s1) else if b.1 = 2 then (if b.2.2 = 1 then [] else s1) else s1
def after2 (n : Int) (b : Int × Int × Int) (s2 : List Int) : List Int :=
  if b.1 = 0 then mark2 n b.2.1 b.2.2 s2 else if b.1 = 1 then (if b.2.2 = 2 then s2.filter (· ≠ b.2.1) else s2) else if b.1 = 2 then (if b.2.2 = 2 then [] else s2) else s2

/-- One mark's turning turns no other. -/
theorem apart_law (n f k : Int) (b : Int × Int × Int) (s1 s2 : List Int) (h : k ≠ b.2.2 ∨ f ≠ b.2.1 ∧ b.1 ≠ 2) : f ∈ sel k (after1 n b s1) (after2 n b s2) ↔ f ∈ sel k s1 s2 := by
  unfold sel after1 after2 mark1 mark2
  by_cases k1 : k = 1
  · subst k1
    simp only [if_true]
    repeat' split
    all_goals simp_all [mem_ins, List.mem_filter]
  · by_cases k2 : k = 2
    · subst k2
      simp only [if_true, if_neg (by decide : ¬ (2 : Int) = 1)]
      repeat' split
      all_goals simp_all [mem_ins, List.mem_filter]
    · simp [k1, k2]

end Go.Proofs.Ytnpnedimgfbnhaa
