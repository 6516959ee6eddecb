/- Contracts of the functions that the law reaches, walked, and the plain laws on them (several texts in one). -/
import Derived.Deep.Cut
import Derived.Outline
import Derived.Test.YtpinoejckagjbaaM17
import Derived.Test.YtpinoejckagjbaaM11

/- The document's shadow: all cleared; a page put. -/
namespace Go.Proofs.Ytpinoejckagjbaa
open Go.RowKit Go.Mum
set_option linter.unusedVariables false
set_option linter.unusedSimpArgs false
set_option maxRecDepth 100000

/-- A page laid before the first that lies above. -/
def insP (p : Pg) : List Pg → List Pg
  | [] => [p]
  | q :: qs => if p.1 < q.1 then p :: q :: qs else q :: insP p qs

theorem insP_end {p : Pg} : ∀ {L : List Pg}, (∀ q ∈ L, ¬ (p.1 < q.1)) → insP p L = L ++ [p]
  | [], _ => rfl
  | q :: qs, h => by
    unfold insP
    rw [if_neg (h q (by simp)), insP_end (fun r hr => h r (by simp [hr]))]
    rfl

theorem insP_new {p r : Pg} (hr : p.1 < r.1) : ∀ {L : List Pg}, (∀ q ∈ L, ¬ (p.1 < q.1)) → insP p (L ++ [r]) = L ++ [p] ++ [r]
  | [], _ => by
    show (if p.1 < r.1 then [p, r] else _) = _
    rw [if_pos hr]; rfl
  | q :: qs, h => by
    show (if p.1 < q.1 then _ else q :: insP p (qs ++ [r])) = _
    rw [if_neg (h q (by simp)), insP_new hr (fun r hr => h r (by simp [hr]))]
    rfl

theorem insP_laid {p r : Pg} : ∀ {L : List Pg}, (∃ q ∈ L, p.1 < q.1) → insP p (L ++ [r]) = insP p L ++ [r]
  | [], h => by obtain ⟨q, hq, _⟩ := h; cases hq
  | q :: qs, h => by
    show (if p.1 < q.1 then p :: q :: (qs ++ [r]) else q :: insP p (qs ++ [r])) = (if p.1 < q.1 then p :: q :: qs else q :: insP p qs) ++ [r]
    by_cases hq : p.1 < q.1
    · rw [if_pos hq, if_pos hq]; rfl
    · rw [if_neg hq, if_neg hq, insP_laid (by
        obtain ⟨x, hx, hx2⟩ := h
        rcases List.mem_cons.1 hx with rfl | hx
        · exact absurd hx2 hq
        · exact ⟨x, hx, hx2⟩)]
      rfl

theorem insP_length (p : Pg) : ∀ L : List Pg, (insP p L).length = L.length + 1
  | [] => rfl
  | q :: qs => by
    unfold insP
    split
    · simp
    · rw [List.length_cons, insP_length p qs, List.length_cons]

/-- No old block is turned but those of which P speaks. -/
def KeepTo (P : Nat → Prop) (x y : World) : Prop := ∃ l : List Nat, (∀ k ∈ l, P k) ∧ Keep l x y

/-- Nothing below a block is turned. -/
abbrev KeepUp (b : Nat) (x y : World) : Prop := KeepTo (fun k => b ≤ k) x y

theorem KeepTo.refl (P : Nat → Prop) (x : World) : KeepTo P x x := ⟨[], by simp, Keep.refl _ _⟩
theorem Keep.upTo {P : Nat → Prop} {l : List Nat} {x y : World} (h : Go.Mum.Keep l x y) (hl : ∀ k ∈ l, P k) : KeepTo P x y := ⟨l, hl, h⟩
theorem KeepTo.trans {P : Nat → Prop} {x y z : World} (h : KeepTo P x y) (h' : KeepTo P y z) : KeepTo P x z := by
  obtain ⟨l, h1, h2⟩ := h
  obtain ⟨m, h3, h4⟩ := h'
  exact ⟨l ++ m, fun k hk => by rcases List.mem_append.1 hk with h | h; exact h1 k h; exact h3 k h, (h2.weaken (by intro k hk _; simp [hk])).trans (h4.weaken (by intro k hk _; simp [hk]))⟩
theorem KeepTo.mono {P Q : Nat → Prop} {x y : World} (h : KeepTo P x y) (hpq : ∀ k, P k → Q k) : KeepTo Q x y := by
  obtain ⟨l, h1, h2⟩ := h
  exact ⟨l, fun k hk => hpq k (h1 k hk), h2⟩
theorem KeepTo.cell {P : Nat → Prop} {x y : World} (h : KeepTo P x y) {b i : Nat} {v : Value} (hc : x.cell? ⟨b, i, none⟩ = some v) (hn : ¬ P b) : y.cell? ⟨b, i, none⟩ = some v := by
  obtain ⟨l, h1, h2⟩ := h
  exact h2.cell hc (fun q => hn (h1 _ q))

/-- What the document's clearing leaves. -/
def RClear (wb most : Nat) (x y : World) : Prop := RS y wb most [] [] (.slice none 0 0) (.slice none 0 0) ∧ KeepUp wb x y

theorem rsclear_at {x : World} {wb most : Nat} {ps : List Pg} {ts : List Nat} {pv tv : Value} (h : RS x wb most ps ts pv tv) :
    Calls Try.prog 55 #[.pointer (some ⟨wb, 0, none⟩)] x fun e y => (∃ v, e = .returned v) ∧ RClear wb most x y := by
  obtain ⟨c0, c1, c2, c3⟩ := h.cells
  have f1 := frozen_of h.blk 1
  have f2 := frozen_of h.blk 2
  have HF : Hid (RClear wb most x ((x.setCell ⟨wb, 1, none⟩ (.slice none 0 0)).setCell ⟨wb, 2, none⟩ (.slice none 0 0))) := Lib.hid
    ⟨⟨heap_set_same (heap_set_same h.blk 1 _) 2 _, World.ownsRow_nil _ _ _ _, World.ownsRow_nil _ _ _ _⟩, [wb], by simp, keepSet (keepSet (Keep.refl _ _) (by simp) _ _) (by simp) _ _⟩
  clear h
  go_enter Try.func55, Try.ntmps55
  go_wp2_with fail
  go_end0
  exact ⟨⟨_, rfl⟩, HF.out⟩

/-- What the document's put leaves. -/
def RPut (wb most : Nat) (ps : List Pg) (ts : List Nat) (tv0 : Value) (va : Nat) (frame : Int) (bb : Nat) (x : World) (e : Ending) (y : World) : Prop :=
  KeepTo (fun k => k = wb ∨ tv0.ownBlock = some k) x y ∧
  (((32768 ≤ va ∨ frame < 0 ∨ 40 ≤ frame) ∧ e = .returned (.bool false) ∧ ∃ pv tv, RS y wb most ps ts pv tv) ∨
   (va < 32768 ∧ 0 ≤ frame ∧ frame < 40 ∧ va / 1024 ∉ ts ∧ most ≤ ts.length ∧ e = .returned (.bool false) ∧ ∃ pv tv, RS y wb most ps ts pv tv) ∨
   (va < 32768 ∧ 0 ≤ frame ∧ frame < 40 ∧ (va / 1024 ∈ ts ∨ ts.length < most) ∧ e = .returned (.bool true) ∧ ∃ pv tv, RS y wb most (insP (va - va % 64, frame.toNat, bb % 16 / 2 * 2 + 1) (ps.filter (fun q => decide (q.1 ≠ va - va % 64)))) (if va / 1024 ∈ ts then ts else ts ++ [va / 1024]) pv tv))
end Go.Proofs.Ytpinoejckagjbaa
