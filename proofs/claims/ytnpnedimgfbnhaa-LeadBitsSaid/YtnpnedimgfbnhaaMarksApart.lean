/- The law MarksApart, walked; and that a frame is marked. -/
import Derived.Test.YtnpnedimgfbnhaaMarks1
import Derived.Test.YtnpnedimgfbnhaaFits
namespace Go.Proofs.Ytnpnedimgfbnhaa
open Go.RowKit Go.Mum
set_option maxRecDepth 100000

/-- May a frame bear a mark of the kind? -/
def fits (n f k : Int) : Prop := (k = 1 ∨ k = 2) ∧ 0 ≤ f ∧ f < n
instance (n f k : Int) : Decidable (fits n f k) := by unfold fits; infer_instance

def mark1 (n f k : Int) (s1 : List Int) : List Int := if k = 1 ∧ fits n f k then ins f s1 else s1
def mark2 (n f k : Int) (s2 : List Int) : List Int := if k = 2 ∧ fits n f k then ins f s2 else s2

def MarkAny (f k : Int) (b m1 m2 : Nat) (n : Int) (s1 s2 : List Int) (w : World) (e : Ending) (w' : World) : Prop :=
  e = .returned (.bool (decide (fits n f k) && (! decide (f ∈ s1) && ! decide (f ∈ s2)))) ∧ MarksAt w' b m1 m2 n (mark1 n f k s1) (mark2 n f k s2) ∧ Keep [m1, m2] w w'

theorem mmark_any {w : World} {b m1 m2 : Nat} {n : Int} {s1 s2 : List Int} (h : MarksAt w b m1 m2 n s1 s2) (f k : Int) :
    Calls Try.prog 9 #[.pointer (some ⟨b, 0, none⟩), .int .i64 f, .int .i64 k] w (MarkAny f k b m1 m2 n s1 s2 w) := by
  by_cases hv : fits n f k
  · refine (mmark_yes h f k hv.1 hv.2.1 hv.2.2).mono ?_
    rintro e w' ⟨h1, h2, h3⟩
    refine ⟨by simpa [hv] using h1, ?_, h3⟩
    unfold mark1 mark2
    simpa [hv] using h2
  · have : Calls Try.prog 9 #[.pointer (some ⟨b, 0, none⟩), .int .i64 f, .int .i64 k] w fun e w' => e = .returned (.bool false) ∧ w = w' := by
      refine mmark_no h.sets f k ?_
      by_cases hk : k = 1 ∨ k = 2
      · exact .inr ⟨b, n, rfl, h.cells.1, by unfold fits at hv; omega⟩
      · left
        have h1 : k ≠ 1 := fun e => hk (.inl e)
        have h2 : k ≠ 2 := fun e => hk (.inr e)
        simp [selM, h1, h2]
    refine this.mono ?_
    rintro e w' ⟨h1, rfl⟩
    refine ⟨by simpa [hv] using h1, ?_, Keep.refl _ _⟩
    unfold mark1 mark2
    simpa [hv] using h

/-- What the second call leaves. -/
def after1 (n : Int) (b : Int × Int × Int) (s1 : List Int) : List Int :=
  if b.1 = 0 then mark1 n b.2.1 b.2.2 s1 else if b.1 = 1 then (if b.2.2 = 1 then s1.filter (· ≠ b.2.1) else s1) else if b.1 = 2 then (if b.2.2 = 1 then [] else s1) else s1
def after2 (n : Int) (b : Int × Int × Int) (s2 : List Int) : List Int :=
  if b.1 = 0 then mark2 n b.2.1 b.2.2 s2 else if b.1 = 1 then (if b.2.2 = 2 then s2.filter (· ≠ b.2.1) else s2) else if b.1 = 2 then (if b.2.2 = 2 then [] else s2) else s2

/-- One mark's turning turns no other. -/
theorem apart_law (n f k : Int) (b : Int × Int × Int) (s1 s2 : List Int) (h : k ≠ b.2.2 ∨ f ≠ b.2.1 ∧ b.1 ≠ 2) : f ∈ sel k (after1 n b s1) (after2 n b s2) ↔ f ∈ sel k s1 s2 := by
  unfold sel after1 after2 mark1 mark2
  by_cases k1 : k = 1
  · subst k1
    simp only [if_true]
    repeat' split
    all_goals simp_all [mem_ins, List.mem_filter]
  · by_cases k2 : k = 2
    · subst k2
      simp only [if_true, if_neg (by decide : ¬ (2 : Int) = 1)]
      repeat' split
      all_goals simp_all [mem_ins, List.mem_filter]
    · simp [k1, k2]

end Go.Proofs.Ytnpnedimgfbnhaa
