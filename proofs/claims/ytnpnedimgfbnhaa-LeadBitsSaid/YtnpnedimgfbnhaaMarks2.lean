/- The calls of the document's marks. -/
import Derived.Test.YtnpnedimgfbnhaaMarksBegin
import Derived.RegionTactic
import Derived.Deep.RegionHeld3
namespace Go.Proofs.Ytnpnedimgfbnhaa
open Go.RowKit Go.Mum
set_option maxRecDepth 100000

/-- The document's marks. -/
structure RMarks (w : World) (c t n : Nat) (s1 s2 : List Int) : Prop where
  one : ArrAt w c 4 n fun j => .bool (decide ((j : Int) ∈ s1))
  two : ArrAt w t 4 n fun j => .bool (decide ((j : Int) ∈ s2))
  ne : c ≠ t
  bound : n ≤ 64

theorem RMarks.keep {l : List Nat} {w x : World} {c t n : Nat} {s1 s2 : List Int} (h : RMarks w c t n s1 s2) (hk : Keep l w x) (hc : c ∉ l) (ht : t ∉ l) : RMarks x c t n s1 s2 :=
  ⟨h.one.keep hk hc, h.two.keep hk ht, h.ne, h.bound⟩

/-- The value. -/
def rval (c t n : Nat) : Value := .agg #[.slice (some ⟨c, 0, none⟩) n n, .slice (some ⟨t, 0, none⟩) n n]

/-- The row of a kind. -/
def rowOf (k : Int) (c t n : Nat) : Value := if k = 1 then .slice (some ⟨c, 0, none⟩) n n else if k = 2 then .slice (some ⟨t, 0, none⟩) n n else .slice none 0 0

def OfPost (v : Value) (w : World) (e : Ending) (w' : World) : Prop := e = .returned v ∧ Keep [] w w'

set_option maxHeartbeats 400000 in
theorem rof (k : Int) (c t n : Nat) (w : World) :
    Calls Try.prog 45 #[rval c t n, .int .i64 k] w (OfPost (rowOf k c t n) w) := by
  have hK : Hid (∀ o : Obj, Keep [] w (w.alloc o)) := Lib.hid fun o => (Keep.refl _ _).alloc o
  by_cases e1 : k = 1
  · subst e1
    go_enter Try.func45, Try.ntmps45
    unfold rval
    go_wp2
    go_ret
    exact ⟨rfl, hK.out _⟩
  · by_cases e2 : k = 2
    · subst e2
      go_enter Try.func45, Try.ntmps45
      unfold rval
      go_wp2
      go_ret
      exact ⟨rfl, hK.out _⟩
    · have hr : rowOf k c t n = .slice none 0 0 := by simp [rowOf, e1, e2]
      rw [hr]
      clear hr
      go_enter Try.func45, Try.ntmps45
      unfold rval
      go_wp2
      go_ret
      exact ⟨rfl, hK.out _⟩

/-- Does a frame bear a mark? -/
def rhas (n : Nat) (f k : Int) (s1 s2 : List Int) : Bool := decide (0 ≤ f ∧ f < n ∧ f ∈ sel k s1 s2)

set_option maxHeartbeats 1000000 in
theorem rhas_at {w : World} {c t n : Nat} {s1 s2 : List Int} (h : RMarks w c t n s1 s2) (f k : Int) :
    Calls Try.prog 53 #[rval c t n, .int .i64 f, .int .i64 k] w fun e w' => e = .returned (.bool (rhas n f k s1 s2)) ∧ Keep [] w w' := by
  have hb := h.bound
  by_cases f0 : 0 ≤ f
  · by_cases e : (k = 1 ∨ k = 2) ∧ f < n
    · obtain ⟨hk, hfn⟩ := e
      obtain ⟨q, rfl⟩ : ∃ q : Nat, f = q := ⟨f.toNat, by omega⟩
      have hrow : ∃ g, rowOf k c t n = .slice (some ⟨g, 0, none⟩) n n ∧ w.cell? ⟨g, q, none⟩ = some (.bool (decide ((q : Int) ∈ sel k s1 s2))) := by
        rcases hk with rfl | rfl
        · exact ⟨c, rfl, h.one.cell (by omega)⟩
        · exact ⟨t, rfl, h.two.cell (by omega)⟩
      obtain ⟨g, hr, hc⟩ := hrow
      have hres : rhas n q k s1 s2 = decide ((q : Int) ∈ sel k s1 s2) := by unfold rhas; rw [decide_eq_decide]; exact ⟨fun h => h.2.2, fun h => ⟨f0, hfn, h⟩⟩
      rw [hres]
      have C := Lib.hid (fun W => rof k c t n W)
      rw [hr] at C
      have Hc := Lib.hid hc
      clear hres hr hc h hk
      go_enter Try.func53, Try.ntmps53
      unfold rval at C ⊢
      go_wp2_with fail
      refine (C.out _).mono ?_
      rintro e w1 ⟨rfl, hK⟩
      have hK' : Keep [] w w1 := ((Keep.refl [] w).alloc _).trans hK
      have hc := hK'.cell Hc.out (by simp)
      have HK := Lib.hid hK'
      clear hK hK'
      go_wp2_with fail
      go_ret
      exact ⟨rfl, HK.out⟩
    · have hres : rhas n f k s1 s2 = false := by
        unfold rhas
        rw [decide_eq_false]
        rintro ⟨_, h2, h3⟩
        unfold sel at h3
        split at h3
        · exact e ⟨.inl ‹_›, h2⟩
        · split at h3
          · exact e ⟨.inr ‹_›, h2⟩
          · cases h3
      rw [hres]
      have hrow : ∃ a m, rowOf k c t n = .slice a m m ∧ (m : Int) ≤ f := by
        unfold rowOf
        split
        · exact ⟨_, n, rfl, by omega⟩
        · split
          · exact ⟨_, n, rfl, by omega⟩
          · exact ⟨none, 0, rfl, f0⟩
      obtain ⟨a, m, hr, hm⟩ := hrow
      have C := Lib.hid (fun W => rof k c t n W)
      rw [hr] at C
      clear hres hr e h
      go_enter Try.func53, Try.ntmps53
      unfold rval at C ⊢
      go_wp2_with fail
      refine (C.out _).mono ?_
      rintro e w1 ⟨rfl, hK⟩
      have HK : Hid (Keep [] w w1) := Lib.hid (((Keep.refl [] w).alloc _).trans hK)
      clear hK
      go_wp2_with fail
      go_ret
      exact ⟨rfl, HK.out⟩
  · have hres : rhas n f k s1 s2 = false := by unfold rhas; rw [decide_eq_false]; exact fun h => f0 h.1
    rw [hres]
    have C := Lib.hid (fun W => rof k c t n W)
    clear hres h
    go_enter Try.func53, Try.ntmps53
    unfold rval at C ⊢
    go_wp2_with fail
    refine (C.out _).mono ?_
    rintro e w1 ⟨rfl, hK⟩
    have HK : Hid (Keep [] w w1) := Lib.hid (((Keep.refl [] w).alloc _).trans hK)
    clear hK
    go_wp2_with fail
    go_ret
    exact ⟨rfl, HK.out⟩

/-- The list with, or without, a frame. -/
def put (f : Int) (on : Bool) (s : List Int) : List Int := if on then ins f s else s.filter (· ≠ f)

theorem mem_put {f x : Int} {on : Bool} {s : List Int} : x ∈ put f on s ↔ (if x = f then on = true else x ∈ s) := by
  unfold put
  cases on
  · by_cases e : x = f <;> simp [e]
  · by_cases e : x = f <;> simp [mem_ins, e]

/-- What Set leaves. -/
def RSet (f k : Int) (on : Bool) (c t n : Nat) (s1 s2 : List Int) (w : World) (e : Ending) (w' : World) : Prop :=
  e = .returned (.bool (decide (fits n f k))) ∧ RMarks w' c t n (if k = 1 ∧ fits n f k then put f on s1 else s1) (if k = 2 ∧ fits n f k then put f on s2 else s2) ∧ Keep [c, t] w w'

set_option maxHeartbeats 1000000 in
theorem rset_at {w : World} {c t n : Nat} {s1 s2 : List Int} (h : RMarks w c t n s1 s2) (f k : Int) (on : Bool) :
    Calls Try.prog 28 #[rval c t n, .int .i64 f, .int .i64 k, .bool on] w (RSet f k on c t n s1 s2 w) := by
  have hb := h.bound
  by_cases hv : fits n f k
  · obtain ⟨hk, f0, f1⟩ := hv
    obtain ⟨q, rfl⟩ : ∃ q : Nat, f = q := ⟨f.toNat, by omega⟩
    have hvv : fits n q k := ⟨hk, f0, f1⟩
    have hrow : ∃ g, (g = c ∨ g = t) ∧ rowOf k c t n = .slice (some ⟨g, 0, none⟩) n n ∧ (∃ v, w.cell? ⟨g, q, none⟩ = some v) ∧ w.frozen? ⟨g, q, none⟩ = false ∧
        ∀ x : World, Keep [] w x → Hid (RSet q k on c t n s1 s2 w (.returned (.bool true)) (x.setCell ⟨g, q, none⟩ (.bool on))) := by
      rcases hk with rfl | rfl
      · refine ⟨c, .inl rfl, rfl, ⟨_, h.one.cell (j := q) (by omega)⟩, h.one.frozen q, fun x hx => Lib.hid ⟨by simp [hvv], ?_, (hx.weaken (l' := [c, t]) (by simp)).setCell (.inl (by simp)) _⟩⟩
        have k1 : Keep [c] x (x.setCell ⟨c, q, none⟩ (.bool on)) := (Keep.refl _ _).setCell (.inl (by simp)) _
        refine ⟨((h.one.keep hx (by simp)).set q _).ext ?_, by simpa using (h.two.keep hx (by simp)).keep k1 (by simpa using h.ne.symm), h.ne, hb⟩
        intro j _
        simp only [true_and, hvv, if_true]
        by_cases e : j = q
        · subst e
          simp [mem_put]
        · have : ¬ (j : Int) = (q : Int) := by omega
          rw [if_neg e]
          simp [mem_put, this]
      · refine ⟨t, .inr rfl, rfl, ⟨_, h.two.cell (j := q) (by omega)⟩, h.two.frozen q, fun x hx => Lib.hid ⟨by simp [hvv], ?_, (hx.weaken (l' := [c, t]) (by simp)).setCell (.inl (by simp)) _⟩⟩
        have k1 : Keep [t] x (x.setCell ⟨t, q, none⟩ (.bool on)) := (Keep.refl _ _).setCell (.inl (by simp)) _
        refine ⟨by simpa using (h.one.keep hx (by simp)).keep k1 (by simpa using h.ne), ((h.two.keep hx (by simp)).set q _).ext ?_, h.ne, hb⟩
        intro j _
        simp only [true_and, hvv, if_true]
        by_cases e : j = q
        · subst e
          simp [mem_put]
        · have : ¬ (j : Int) = (q : Int) := by omega
          rw [if_neg e]
          simp [mem_put, this]
    obtain ⟨g, -, hr, ⟨v, hc⟩, hf, Hfin⟩ := hrow
    have C := Lib.hid (fun W => rof k c t n W)
    rw [hr] at C
    have HF := Lib.hid Hfin
    have Hc := Lib.hid hc
    have Hf := Lib.hid hf
    clear hr hc hf Hfin h hk hvv
    go_enter Try.func28, Try.ntmps28
    unfold rval at C ⊢
    go_wp2_with fail
    refine (C.out _).mono ?_
    rintro e w1 ⟨rfl, hK⟩
    have hK' : Keep [] w w1 := ((Keep.refl [] w).alloc _).trans hK
    have hc := hK'.cell Hc.out (by simp)
    have hf : w1.frozen? ⟨g, q, none⟩ = false := by rw [hK'.frozen (World.block_lt_of_cell? w _ Hc.out) (by simp)]; exact Hf.out
    have Hfin := HF.out w1 hK'
    clear hK hK'
    go_wp2_with fail
    go_ret
    exact Hfin.out
  · have Hfin : ∀ x : World, Keep [] w x → Hid (RSet f k on c t n s1 s2 w (.returned (.bool false)) x) := fun x hx => Lib.hid ⟨by simp [hv], by simpa [hv] using h.keep hx (by simp) (by simp), hx.weaken (by simp)⟩
    by_cases f0 : f < 0
    · have C := Lib.hid (fun W => rof k c t n W)
      have hr : ∃ a m, rowOf k c t n = .slice a m m := by
        unfold rowOf
        split
        · exact ⟨_, n, rfl⟩
        · split
          · exact ⟨_, n, rfl⟩
          · exact ⟨none, 0, rfl⟩
      obtain ⟨a, m, hr⟩ := hr
      rw [hr] at C
      have HF := Lib.hid Hfin
      clear hr hv h Hfin
      go_enter Try.func28, Try.ntmps28
      unfold rval at C ⊢
      go_wp2_with fail
      refine (C.out _).mono ?_
      rintro e w1 ⟨rfl, hK⟩
      have Hfin := HF.out w1 (((Keep.refl [] w).alloc _).trans hK)
      clear hK
      go_wp2_with fail
      go_ret
      exact Hfin.out
    · have hr : ∃ a m, rowOf k c t n = .slice a m m ∧ (m : Int) ≤ f := by
        unfold fits at hv
        unfold rowOf
        split
        · exact ⟨_, n, rfl, by omega⟩
        · split
          · exact ⟨_, n, rfl, by omega⟩
          · exact ⟨none, 0, rfl, by omega⟩
      obtain ⟨a, m, hr, hm⟩ := hr
      have C := Lib.hid (fun W => rof k c t n W)
      rw [hr] at C
      have HF := Lib.hid Hfin
      clear hr hv h Hfin
      go_enter Try.func28, Try.ntmps28
      unfold rval at C ⊢
      go_wp2_with fail
      refine (C.out _).mono ?_
      rintro e w1 ⟨rfl, hK⟩
      have Hfin := HF.out w1 (((Keep.refl [] w).alloc _).trans hK)
      clear hK
      go_wp2_with fail
      go_ret
      exact Hfin.out
end Go.Proofs.Ytnpnedimgfbnhaa
