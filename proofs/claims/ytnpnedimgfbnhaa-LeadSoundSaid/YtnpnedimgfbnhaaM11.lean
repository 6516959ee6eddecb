/- Contracts of the functions that the law reaches, walked, and the plain laws on them (several texts in one). -/
import Derived.RangeFuncBox
import Derived.RangeFuncLeaves
import Derived.Shelf.Abstract
import Derived.OwnWalkIn
import Derived.TacticsInMore
import Derived.LoopNIn
import Derived.LoopIn
import Derived.Maps.AppendAt
import Derived.RegionTactic
import Derived.Deep.RegionHeld3
import Derived.Outline
import Derived.Test.YtnpnedimgfbnhaaM10
import Derived.Test.YtnpnedimgfbnhaaM01
import Derived.Test.YtnpnedimgfbnhaaM09

/- The call List of the package marks: the frames that bear a mark, rising. -/
namespace Go.Proofs.Ytnpnedimgfbnhaa
open Go.RowKit Go.Mum Go.Shelf
set_option maxRecDepth 100000

attribute [local go_sem] Oper.semAt_some

/-- Those of the first n frames that are in s. -/
def kept (n : Nat) (s : List Int) : List Int := ((List.range n).map fun j : Nat => (j : Int)).filter (· ∈ s)

theorem kept_succ_in {n : Nat} {s : List Int} (h : (n : Int) ∈ s) : kept (n + 1) s = kept n s ++ [(n : Int)] := by
  simp [kept, List.range_succ, List.filter_append, h]
theorem kept_succ_out {n : Nat} {s : List Int} (h : ¬ (n : Int) ∈ s) : kept (n + 1) s = kept n s := by
  simp [kept, List.range_succ, List.filter_append, h]
theorem kept_le (n : Nat) (s : List Int) : (kept n s).length ≤ n := by
  have := List.length_filter_le (fun x => decide (x ∈ s)) ((List.range n).map fun j : Nat => (j : Int))
  simpa [kept] using this
theorem kept_nil (n : Nat) : kept n [] = [] := by simp [kept]
theorem kept_prefix {k n : Nat} (s : List Int) (h : k ≤ n) : kept k s <+: kept n s := by
  induction n with
  | zero => obtain rfl : k = 0 := by omega
            exact List.prefix_refl _
  | succ n ih =>
    by_cases e : k = n + 1
    · subst e; exact List.prefix_refl _
    · have := ih (by omega)
      by_cases hi : (n : Int) ∈ s
      · rw [kept_succ_in hi]; exact this.trans (List.prefix_append _ _)
      · rw [kept_succ_out hi]; exact this

theorem Holds.below {n₀ : Nat} {w x : World} {v : Option Nat} {s : List Int} (h : Holds w v s) (hv : ∀ m, v = some m → m < n₀) (hb : Below n₀ w x) : Holds x v s := by
  rcases h with h | ⟨m, rfl, h⟩
  · exact .inl h
  · exact .inr ⟨m, rfl, h.same (hb.block m (hv m rfl))⟩

/-- Who may be asked for a list: what the sets hold, and of how many frames. -/
structure Listed (w : World) (v : Value) (k : Int) (N : Nat) (s : List Int) : Prop where
  bound : N ≤ 64
  ex : ∃ v1 v2, Sets w v v1 v2 ∧ Holds w (selM k v1 v2) s ∧ (∀ m, selM k v1 v2 = some m → m < w.heap.size) ∧ (∀ m, selM k v1 v2 = some m → ∃ b, v = .pointer (some ⟨b, 0, none⟩) ∧ w.cell? ⟨b, 0, none⟩ = some (.int .i64 N))

theorem Listed.ptr {w : World} {v : Value} {k : Int} {N : Nat} {s : List Int} (h : Listed w v k N s) : v = .pointer none ∨ ∃ b, v = .pointer (some ⟨b, 0, none⟩) := by
  obtain ⟨v1, v2, h, _⟩ := h.ex
  rcases h with ⟨h, _⟩ | ⟨b, h, _⟩
  · exact .inl h
  · exact .inr ⟨b, h⟩

theorem info_int : (Try.prog.info? 3).map (fun i => (i.zero, i.size, i.bytes)) = some (some (.int .i64 0), 1, 8) := by kernel_rfl

def ListPost (l : List Int) (w : World) (e : Ending) (w' : World) : Prop :=
  ∃ v, e = .returned v ∧ w'.ownsRow w.heap.size 3 1 v l.length (l.map (Value.int .i64)) ∧ Below w.heap.size w w'

end Go.Proofs.Ytnpnedimgfbnhaa

/- The laws MarksBegin and MarksNone, walked. -/
namespace Go.Proofs.Ytnpnedimgfbnhaa
open Go.RowKit Go.Mum
set_option maxRecDepth 100000

theorem keep_of_below {w x : World} (h : Below w.heap.size w x) : Keep [] w x := ⟨h.os, h.tape, h.output, h.size, fun k hk _ => h.block k hk⟩

/-- A list of numbers in new memory. -/
def ListAt (B : Nat) (w : World) (a : Option Addr) (l : List Int) : Prop :=
  l = [] ∨ ∃ g, a = some ⟨g, 0, none⟩ ∧ B ≤ g ∧ g < w.heap.size ∧ ∀ j (hj : j < l.length), w.cell? ⟨g, j, none⟩ = some (.int .i64 l[j])

def ListIs (l : List Int) (w : World) (e : Ending) (w' : World) : Prop :=
  ∃ a cap, e = .returned (.slice a l.length cap) ∧ ListAt w.heap.size w' a l ∧ Keep [] w w'

theorem listIs_of {l : List Int} {w : World} {e : Ending} {w' : World} (h : ListPost l w e w') : ListIs l w e w' := by
  obtain ⟨v, rfl, hown, hb⟩ := h
  rcases hown.2 with ⟨rfl, hl⟩ | ⟨g, cap, cur, rfl, hg, hh, hn, _, hsz, htake⟩
  · have : l = [] := List.eq_nil_of_length_eq_zero hl
    subst this
    exact ⟨none, 0, rfl, .inl rfl, keep_of_below hb⟩
  · refine ⟨_, cap, rfl, .inr ⟨g, rfl, hg, lt_of_heap hh, fun j hj => ?_⟩, keep_of_below hb⟩
    refine cell_of hh j ?_
    have := congrArg (fun q => q[j]?) htake
    simpa [List.getElem?_take, hj] using this

theorem MarksAt.listed {w : World} {b m1 m2 : Nat} {N : Nat} {s1 s2 : List Int} (h : MarksAt w b m1 m2 N s1 s2) (hN : N ≤ 64) (k : Int) : Listed w (.pointer (some ⟨b, 0, none⟩)) k N (sel k s1 s2) := by
  refine ⟨hN, some m1, some m2, h.sets, holds_sel (.inr ⟨m1, rfl, h.one⟩) (.inr ⟨m2, rfl, h.two⟩) k, ?_, fun m _ => ⟨b, rfl, h.cells.1⟩⟩
  intro m hm
  unfold selM at hm
  split at hm
  · cases hm; exact h.one.lt
  · split at hm
    · cases hm; exact h.two.lt
    · cases hm

/-! Marks that are not there, or that no call made. -/

theorem selM_none (k : Int) : selM k none none = none := by unfold selM; split <;> (try split) <;> rfl

theorem Sets.keep {v : Value} {v1 v2 : Option Nat} {w x : World} (h : Sets w v v1 v2) (hk : Keep [] w x) : Sets x v v1 v2 := by
  rcases h with h | ⟨b, rfl, h1, h2⟩
  · exact .inl h
  · exact .inr ⟨b, rfl, hk.cell h1 (by simp), hk.cell h2 (by simp)⟩

end Go.Proofs.Ytnpnedimgfbnhaa

/- The calls of the document's marks. -/
namespace Go.Proofs.Ytnpnedimgfbnhaa
open Go.RowKit Go.Mum
set_option maxRecDepth 100000

/-- The document's marks. -/
structure RMarks (w : World) (c t n : Nat) (s1 s2 : List Int) : Prop where
  one : ArrAt w c 4 n fun j => .bool (decide ((j : Int) ∈ s1))
  two : ArrAt w t 4 n fun j => .bool (decide ((j : Int) ∈ s2))
  ne : c ≠ t
  bound : n ≤ 64

theorem RMarks.keep {l : List Nat} {w x : World} {c t n : Nat} {s1 s2 : List Int} (h : RMarks w c t n s1 s2) (hk : Keep l w x) (hc : c ∉ l) (ht : t ∉ l) : RMarks x c t n s1 s2 :=
  ⟨h.one.keep hk hc, h.two.keep hk ht, h.ne, h.bound⟩

/-- The value. -/
def rval (c t n : Nat) : Value := .agg #[.slice (some ⟨c, 0, none⟩) n n, .slice (some ⟨t, 0, none⟩) n n]

/-- The row of a kind. -/
def rowOf (k : Int) (c t n : Nat) : Value := if k = 1 then .slice (some ⟨c, 0, none⟩) n n else if k = 2 then .slice (some ⟨t, 0, none⟩) n n else .slice none 0 0

def OfPost (v : Value) (w : World) (e : Ending) (w' : World) : Prop := e = .returned v ∧ Keep [] w w'

set_option maxHeartbeats 400000 in
theorem rof (k : Int) (c t n : Nat) (w : World) :
    Calls Try.prog 45 #[rval c t n, .int .i64 k] w (OfPost (rowOf k c t n) w) := by
  have hK : Hid (∀ o : Obj, Keep [] w (w.alloc o)) := Lib.hid fun o => (Keep.refl _ _).alloc o
  by_cases e1 : k = 1
  · subst e1
    go_enter Try.func45, Try.ntmps45
    unfold rval
    go_wp2
    go_ret
    exact ⟨rfl, hK.out _⟩
  · by_cases e2 : k = 2
    · subst e2
      go_enter Try.func45, Try.ntmps45
      unfold rval
      go_wp2
      go_ret
      exact ⟨rfl, hK.out _⟩
    · have hr : rowOf k c t n = .slice none 0 0 := by simp [rowOf, e1, e2]
      rw [hr]
      clear hr
      go_enter Try.func45, Try.ntmps45
      unfold rval
      go_wp2
      go_ret
      exact ⟨rfl, hK.out _⟩

/-- Does a frame bear a mark? -/
def rhas (n : Nat) (f k : Int) (s1 s2 : List Int) : Bool := decide (0 ≤ f ∧ f < n ∧ f ∈ sel k s1 s2)

set_option maxHeartbeats 1000000 in
theorem rhas_at {w : World} {c t n : Nat} {s1 s2 : List Int} (h : RMarks w c t n s1 s2) (f k : Int) :
    Calls Try.prog 53 #[rval c t n, .int .i64 f, .int .i64 k] w fun e w' => e = .returned (.bool (rhas n f k s1 s2)) ∧ Keep [] w w' := by
  have hb := h.bound
  by_cases f0 : 0 ≤ f
  · by_cases e : (k = 1 ∨ k = 2) ∧ f < n
    · obtain ⟨hk, hfn⟩ := e
      obtain ⟨q, rfl⟩ : ∃ q : Nat, f = q := ⟨f.toNat, by omega⟩
      have hrow : ∃ g, rowOf k c t n = .slice (some ⟨g, 0, none⟩) n n ∧ w.cell? ⟨g, q, none⟩ = some (.bool (decide ((q : Int) ∈ sel k s1 s2))) := by
        rcases hk with rfl | rfl
        · exact ⟨c, rfl, h.one.cell (by omega)⟩
        · exact ⟨t, rfl, h.two.cell (by omega)⟩
      obtain ⟨g, hr, hc⟩ := hrow
      have hres : rhas n q k s1 s2 = decide ((q : Int) ∈ sel k s1 s2) := by unfold rhas; rw [decide_eq_decide]; exact ⟨fun h => h.2.2, fun h => ⟨f0, hfn, h⟩⟩
      rw [hres]
      have C := Lib.hid (fun W => rof k c t n W)
      rw [hr] at C
      have Hc := Lib.hid hc
      clear hres hr hc h hk
      go_enter Try.func53, Try.ntmps53
      unfold rval at C ⊢
      go_wp2_with fail
      refine (C.out _).mono ?_
      rintro e w1 ⟨rfl, hK⟩
      have hK' : Keep [] w w1 := ((Keep.refl [] w).alloc _).trans hK
      have hc := hK'.cell Hc.out (by simp)
      have HK := Lib.hid hK'
      clear hK hK'
      go_wp2_with fail
      go_ret
      exact ⟨rfl, HK.out⟩
    · have hres : rhas n f k s1 s2 = false := by
        unfold rhas
        rw [decide_eq_false]
        rintro ⟨_, h2, h3⟩
        unfold sel at h3
        split at h3
        · exact e ⟨.inl ‹_›, h2⟩
        · split at h3
          · exact e ⟨.inr ‹_›, h2⟩
          · cases h3
      rw [hres]
      have hrow : ∃ a m, rowOf k c t n = .slice a m m ∧ (m : Int) ≤ f := by
        unfold rowOf
        split
        · exact ⟨_, n, rfl, by omega⟩
        · split
          · exact ⟨_, n, rfl, by omega⟩
          · exact ⟨none, 0, rfl, f0⟩
      obtain ⟨a, m, hr, hm⟩ := hrow
      have C := Lib.hid (fun W => rof k c t n W)
      rw [hr] at C
      clear hres hr e h
      go_enter Try.func53, Try.ntmps53
      unfold rval at C ⊢
      go_wp2_with fail
      refine (C.out _).mono ?_
      rintro e w1 ⟨rfl, hK⟩
      have HK : Hid (Keep [] w w1) := Lib.hid (((Keep.refl [] w).alloc _).trans hK)
      clear hK
      go_wp2_with fail
      go_ret
      exact ⟨rfl, HK.out⟩
  · have hres : rhas n f k s1 s2 = false := by unfold rhas; rw [decide_eq_false]; exact fun h => f0 h.1
    rw [hres]
    have C := Lib.hid (fun W => rof k c t n W)
    clear hres h
    go_enter Try.func53, Try.ntmps53
    unfold rval at C ⊢
    go_wp2_with fail
    refine (C.out _).mono ?_
    rintro e w1 ⟨rfl, hK⟩
    have HK : Hid (Keep [] w w1) := Lib.hid (((Keep.refl [] w).alloc _).trans hK)
    clear hK
    go_wp2_with fail
    go_ret
    exact ⟨rfl, HK.out⟩

/-- The list with, or without, a frame. -/
def put (f : Int) (on : Bool) (s : List Int) : List Int := if on then ins f s else s.filter (· ≠ f)

theorem mem_put {f x : Int} {on : Bool} {s : List Int} : x ∈ put f on s ↔ (if x = f then on = true else x ∈ s) := by
  unfold put
  cases on
  · by_cases e : x = f <;> simp [e]
  · by_cases e : x = f <;> simp [mem_ins, e]

/-- What Set leaves. -/
def RSet (f k : Int) (on : Bool) (c t n : Nat) (s1 s2 : List Int) (w : World) (e : Ending) (w' : World) : Prop :=
  e = .returned (.bool (decide (fits n f k))) ∧ RMarks w' c t n (if k = 1 ∧ fits n f k then put f on s1 else s1) (if k = 2 ∧ fits n f k then put f on s2 else s2) ∧ Keep [c, t] w w'

set_option maxHeartbeats 1000000 in
theorem rset_at {w : World} {c t n : Nat} {s1 s2 : List Int} (h : RMarks w c t n s1 s2) (f k : Int) (on : Bool) :
    Calls Try.prog 28 #[rval c t n, .int .i64 f, .int .i64 k, .bool on] w (RSet f k on c t n s1 s2 w) := by
  have hb := h.bound
  by_cases hv : fits n f k
  · obtain ⟨hk, f0, f1⟩ := hv
    obtain ⟨q, rfl⟩ : ∃ q : Nat, f = q := ⟨f.toNat, by omega⟩
    have hvv : fits n q k := ⟨hk, f0, f1⟩
    have hrow : ∃ g, (g = c ∨ g = t) ∧ rowOf k c t n = .slice (some ⟨g, 0, none⟩) n n ∧ (∃ v, w.cell? ⟨g, q, none⟩ = some v) ∧ w.frozen? ⟨g, q, none⟩ = false ∧
        ∀ x : World, Keep [] w x → Hid (RSet q k on c t n s1 s2 w (.returned (.bool true)) (x.setCell ⟨g, q, none⟩ (.bool on))) := by
      rcases hk with rfl | rfl
      · refine ⟨c, .inl rfl, rfl, ⟨_, h.one.cell (j := q) (by omega)⟩, h.one.frozen q, fun x hx => Lib.hid ⟨by simp [hvv], ?_, (hx.weaken (l' := [c, t]) (by simp)).setCell (.inl (by simp)) _⟩⟩
        have k1 : Keep [c] x (x.setCell ⟨c, q, none⟩ (.bool on)) := (Keep.refl _ _).setCell (.inl (by simp)) _
        refine ⟨((h.one.keep hx (by simp)).set q _).ext ?_, by simpa using (h.two.keep hx (by simp)).keep k1 (by simpa using h.ne.symm), h.ne, hb⟩
        intro j _
        simp only [true_and, hvv, if_true]
        by_cases e : j = q
        · subst e
          simp [mem_put]
        · have : ¬ (j : Int) = (q : Int) := by omega
          rw [if_neg e]
          simp [mem_put, this]
      · refine ⟨t, .inr rfl, rfl, ⟨_, h.two.cell (j := q) (by omega)⟩, h.two.frozen q, fun x hx => Lib.hid ⟨by simp [hvv], ?_, (hx.weaken (l' := [c, t]) (by simp)).setCell (.inl (by simp)) _⟩⟩
        have k1 : Keep [t] x (x.setCell ⟨t, q, none⟩ (.bool on)) := (Keep.refl _ _).setCell (.inl (by simp)) _
        refine ⟨by simpa using (h.one.keep hx (by simp)).keep k1 (by simpa using h.ne), ((h.two.keep hx (by simp)).set q _).ext ?_, h.ne, hb⟩
        intro j _
        simp only [true_and, hvv, if_true]
        by_cases e : j = q
        · subst e
          simp [mem_put]
        · have : ¬ (j : Int) = (q : Int) := by omega
          rw [if_neg e]
          simp [mem_put, this]
    obtain ⟨g, -, hr, ⟨v, hc⟩, hf, Hfin⟩ := hrow
    have C := Lib.hid (fun W => rof k c t n W)
    rw [hr] at C
    have HF := Lib.hid Hfin
    have Hc := Lib.hid hc
    have Hf := Lib.hid hf
    clear hr hc hf Hfin h hk hvv
    go_enter Try.func28, Try.ntmps28
    unfold rval at C ⊢
    go_wp2_with fail
    refine (C.out _).mono ?_
    rintro e w1 ⟨rfl, hK⟩
    have hK' : Keep [] w w1 := ((Keep.refl [] w).alloc _).trans hK
    have hc := hK'.cell Hc.out (by simp)
    have hf : w1.frozen? ⟨g, q, none⟩ = false := by rw [hK'.frozen (World.block_lt_of_cell? w _ Hc.out) (by simp)]; exact Hf.out
    have Hfin := HF.out w1 hK'
    clear hK hK'
    go_wp2_with fail
    go_ret
    exact Hfin.out
  · have Hfin : ∀ x : World, Keep [] w x → Hid (RSet f k on c t n s1 s2 w (.returned (.bool false)) x) := fun x hx => Lib.hid ⟨by simp [hv], by simpa [hv] using h.keep hx (by simp) (by simp), hx.weaken (by simp)⟩
    by_cases f0 : f < 0
    · have C := Lib.hid (fun W => rof k c t n W)
      have hr : ∃ a m, rowOf k c t n = .slice a m m := by
        unfold rowOf
        split
        · exact ⟨_, n, rfl⟩
        · split
          · exact ⟨_, n, rfl⟩
          · exact ⟨none, 0, rfl⟩
      obtain ⟨a, m, hr⟩ := hr
      rw [hr] at C
      have HF := Lib.hid Hfin
      clear hr hv h Hfin
      go_enter Try.func28, Try.ntmps28
      unfold rval at C ⊢
      go_wp2_with fail
      refine (C.out _).mono ?_
      rintro e w1 ⟨rfl, hK⟩
      have Hfin := HF.out w1 (((Keep.refl [] w).alloc _).trans hK)
      clear hK
      go_wp2_with fail
      go_ret
      exact Hfin.out
    · have hr : ∃ a m, rowOf k c t n = .slice a m m ∧ (m : Int) ≤ f := by
        unfold fits at hv
        unfold rowOf
        split
        · exact ⟨_, n, rfl, by omega⟩
        · split
          · exact ⟨_, n, rfl, by omega⟩
          · exact ⟨none, 0, rfl, by omega⟩
      obtain ⟨a, m, hr, hm⟩ := hr
      have C := Lib.hid (fun W => rof k c t n W)
      rw [hr] at C
      have HF := Lib.hid Hfin
      clear hr hv h Hfin
      go_enter Try.func28, Try.ntmps28
      unfold rval at C ⊢
      go_wp2_with fail
      refine (C.out _).mono ?_
      rintro e w1 ⟨rfl, hK⟩
      have Hfin := HF.out w1 (((Keep.refl [] w).alloc _).trans hK)
      clear hK
      go_wp2_with fail
      go_ret
      exact Hfin.out
end Go.Proofs.Ytnpnedimgfbnhaa

/- The document's marks: New and List; two rows held against each other. -/
namespace Go.Proofs.Ytnpnedimgfbnhaa
open Go.RowKit Go.Mum
set_option maxRecDepth 100000

def RNew (n : Nat) (w : World) (e : Ending) (w' : World) : Prop :=
  ∃ c t, w.heap.size ≤ c ∧ w.heap.size ≤ t ∧ e = .returned (rval c t n) ∧ RMarks w' c t n [] [] ∧ Keep [] w w'

set_option maxHeartbeats 1000000 in
theorem rnew_at (n : Nat) (hn : n ≤ 64) (w : World) : Calls Try.prog 26 #[.int .i64 n] w (RNew n w) := by
  have hmk := fun w => run_make_row' (P := Try.prog) 51 4 (.bool false) 1 Try.underlying51 (by kernel_rfl) rfl .i64 .i64 n (by omega) (by omega) w
  go_enter Try.func26, Try.ntmps26
  go_wp2_with fail
  go_region
  all_goals go_wp2
  · refine bodyPost_ret (v := rval (w.heap.size + 1) (w.heap.size + 1 + 1) n) (by simp [results, rval, Try.results26, go_sem]) rfl ⟨_, _, by omega, by omega, rfl, ⟨?_, ?_, by omega, hn⟩, ((((Keep.refl _ _).alloc _).alloc _).alloc _).drew⟩
    · exact (((arrAt_new _ _ _ _ (by simp)).keep ((Keep.refl [] _).alloc _) (by simp)).keep ((Keep.refl [] _).drew) (by simp)).ext (by simp)
    · exact ((arrAt_new _ _ _ _ (by simp)).keep ((Keep.refl [] _).drew) (by simp)).ext (by simp)
  · refine bodyPost_ret (v := rval (w.heap.size + 1 + 1) (w.heap.size + 1) n) (by simp [results, rval, Try.results26, go_sem]) rfl ⟨_, _, by omega, by omega, rfl, ⟨?_, ?_, by omega, hn⟩, ((((Keep.refl _ _).alloc _).alloc _).alloc _).drew⟩
    · exact ((arrAt_new _ _ _ _ (by simp)).keep ((Keep.refl [] _).drew) (by simp)).ext (by simp)
    · exact (((arrAt_new _ _ _ _ (by simp)).keep ((Keep.refl [] _).alloc _) (by simp)).keep ((Keep.refl [] _).drew) (by simp)).ext (by simp)

/-- The cells of a list of numbers. -/
def Reads (w : World) (a : Option Addr) (l : List Int) : Prop := l = [] ∨ ∃ g, a = some ⟨g, 0, none⟩ ∧ ∀ j (hj : j < l.length), w.cell? ⟨g, j, none⟩ = some (.int .i64 l[j])

theorem ListAt.reads {B : Nat} {w : World} {a : Option Addr} {l : List Int} (h : ListAt B w a l) : Reads w a l := by
  rcases h with h | ⟨g, h1, _, _, h2⟩
  · exact .inl h
  · exact .inr ⟨g, h1, h2⟩

theorem Reads.keep {w x : World} {a : Option Addr} {l : List Int} (h : Reads w a l) (hk : Keep [] w x) : Reads x a l := by
  rcases h with h | ⟨g, h1, h2⟩
  · exact .inl h
  · exact .inr ⟨g, h1, fun j hj => hk.cell (h2 j hj) (by simp)⟩

end Go.Proofs.Ytnpnedimgfbnhaa

/- What is done with an access: the small calls. -/
namespace Go.Proofs.Ytnpnedimgfbnhaa
open Go.RowKit Go.Mum
set_option linter.unusedVariables false
set_option maxRecDepth 100000

/-- Marks as they are asked. -/
def Wat (w : World) (mv : Value) (W : Int → Bool) : Prop := ∀ x, Keep [] w x → ∀ f : Int, Calls Try.prog 19 #[mv, .int .i64 f] x fun e w' => e = .returned (.bool (W f)) ∧ x = w'

theorem Wat.keep0 {w x : World} {mv : Value} {W : Int → Bool} (h : Wat w mv W) (hk : Keep [] w x) : Wat x mv W := fun y hy => h y (hk.trans hy)

theorem MarksAt.wat {w : World} {b m1 m2 : Nat} {n : Int} {s1 s2 : List Int} (h : MarksAt w b m1 m2 n s1 s2) : Wat w (.pointer (some ⟨b, 0, none⟩)) (fun f => decide (f ∈ s1) || decide (f ∈ s2)) := fun x hx f => by
  have H := h.keep hx (by simp) (by simp) (by simp)
  exact mwatched_any H.sets (.inr ⟨m1, rfl, H.one⟩) (.inr ⟨m2, rfl, H.two⟩) f

def BoolPost (q : Bool) (w : World) (e : Ending) (w' : World) : Prop := e = .returned (.bool q) ∧ Keep [] w w'

set_option maxHeartbeats 1000000 in
theorem paged_at (v mv : Value) (f : Nat → Value) (ps : Nat) (cr va kind : Int) (hp : ps < 4294967296) (w : World) :
    Calls Try.prog 48 #[.agg #[v, f 0, f 1, f 2, f 3, f 4, f 5, f 6, f 7, f 8, .int .u32 ps, .int .u32 cr, f 11, f 12, f 13, f 14, f 15, f 16, f 17, f 18, mv, .int .u32 va, .int .i64 kind]] w fun en w' => en = .returned (.bool (decide (ps / 4 % 2 = 1))) ∧ w.alloc (.cells #[v, f 0, f 1, f 2, f 3, f 4, f 5, f 6, f 7, f 8, .int .u32 ps, .int .u32 cr, f 11, f 12, f 13, f 14, f 15, f 16, f 17, f 18, mv, .int .u32 va, .int .i64 kind] 91) = w' := by
  by_cases h4 : ps / 4 % 2 = 0
  · have m4 : bits .and .u32 (ps : Int) 4 = 0 := bit0 (i := 2) hp rfl (by decide) h4
    rw [decide_eq_false (by omega)]
    clear h4
    go_enter Try.func48, Try.ntmps48
    go_wp2
    go_ret
    exact ⟨rfl, rfl⟩
  · have m4 : bits .and .u32 (ps : Int) 4 = 4 := bit1 (i := 2) hp rfl (by decide) h4
    rw [decide_eq_true (by omega)]
    clear h4
    go_enter Try.func48, Try.ntmps48
    go_wp2
    go_ret
    exact ⟨rfl, rfl⟩

/-- Two frames, rising, each once. -/
def tabs (d t : Nat) : List Int := if d = t then [(d : Int)] else if t < d then [(t : Int), (d : Int)] else [(d : Int), (t : Int)]

theorem tabs_len (d t : Nat) : 1 ≤ (tabs d t).length ∧ (tabs d t).length ≤ 2 := by unfold tabs; (repeat' split) <;> simp

/-- What a call that hands back a list of numbers leaves. -/
def NumsPost (l : List Int) (w : World) (e : Ending) (w' : World) : Prop := ∃ a cap, e = .returned (.slice a l.length cap) ∧ Reads w' a l ∧ Keep [] w w'

theorem reads_one (w : World) (x : Int) {t : TypeId} : Reads (w.alloc (.cells #[.int .i64 x] t)) (some ⟨w.heap.size, 0, none⟩) [x] :=
  .inr ⟨_, rfl, fun j hj => by
    obtain rfl : j = 0 := by simp at hj; omega
    exact cell_of (heap_alloc_same w _) 0 rfl⟩

theorem reads_two (w : World) (x y : Int) {t : TypeId} : Reads (w.alloc (.cells #[.int .i64 x, .int .i64 y] t)) (some ⟨w.heap.size, 0, none⟩) [x, y] :=
  .inr ⟨_, rfl, fun j hj => by
    have : j = 0 ∨ j = 1 := by simp at hj; omega
    rcases this with rfl | rfl
    · exact cell_of (heap_alloc_same w _) 0 rfl
    · exact cell_of (heap_alloc_same w _) 1 rfl⟩

theorem reads_tabs (w : World) (l : List Int) {t : TypeId} : Reads (w.alloc (.cells (l.map (Value.int .i64)).toArray t)) (some ⟨w.heap.size, 0, none⟩) l :=
  .inr ⟨_, rfl, fun j hj => cell_of (heap_alloc_same w _) j (by simp [hj])⟩

set_option maxHeartbeats 1000000 in
theorem lboth_at (d t : Nat) (w : World) :
    Calls Try.prog 49 #[.int .i64 d, .int .i64 t] w fun en w' => en = .returned (.slice (some ⟨w.heap.size, 0, none⟩) (tabs d t).length (tabs d t).length) ∧ w.alloc (.cells ((tabs d t).map (Value.int .i64)).toArray 3) = w' := by
  by_cases h1 : d = t
  · subst h1
    have e : tabs d d = [(d : Int)] := by simp [tabs]
    rw [e]
    go_enter Try.func49, Try.ntmps49
    go_wp2
    go_ret
    exact ⟨rfl, rfl⟩
  · by_cases h2 : t < d
    · have e : tabs d t = [(t : Int), (d : Int)] := by simp [tabs, h1, h2]
      rw [e]
      have h1' : ((d : Int) == (t : Int)) = false := beq_eq_false_iff_ne.2 (by omega)
      have h2' : (t : Int) < (d : Int) := by omega
      clear h1 h2 e
      go_enter Try.func49, Try.ntmps49
      go_wp2
      go_ret
      exact ⟨rfl, rfl⟩
    · have e : tabs d t = [(d : Int), (t : Int)] := by simp [tabs, h1, h2]
      rw [e]
      have h1' : ((d : Int) == (t : Int)) = false := beq_eq_false_iff_ne.2 (by omega)
      have h2' : ¬ ((t : Int) < (d : Int)) := by omega
      clear h1 h2 e
      go_enter Try.func49, Try.ntmps49
      go_wp2
      go_ret
      exact ⟨rfl, rfl⟩

theorem ask1_at {w : World} {vb : Nat} {q : Bool} (h : w.cell? ⟨vb, 5, none⟩ = some (.bool q)) :
    Calls Try.prog 46 #[.pointer (some ⟨vb, 0, none⟩)] w fun e w' => e = .returned (.bool q) ∧ w = w' := by
  go_enter Try.func46, Try.ntmps46
  go_wp2
  go_ret
  exact ⟨rfl, rfl⟩

theorem ask2_at {w : World} {ab wb : Nat} {mv : Value} {W : Int → Bool} {p : Int} (kind : Int) (hm : Wat w mv W) (h1 : w.cell? ⟨ab, 22, none⟩ = some (.int .i64 kind)) (h2 : w.cell? ⟨ab, 20, none⟩ = some mv) (h3 : w.cell? ⟨wb, 5, none⟩ = some (.int .i64 p)) :
    Calls Try.prog 47 #[.pointer (some ⟨ab, 0, none⟩), .pointer (some ⟨wb, 0, none⟩)] w fun e w' => e = .returned (.bool (decide (kind = 3) && W p)) ∧ w = w' := by
  have HM := Lib.hid (hm w (Keep.refl _ _) p)
  clear hm
  by_cases hk : kind = 3
  · subst hk
    rw [decide_eq_true rfl, Bool.true_and]
    generalize W p = q at HM
    go_enter Try.func47, Try.ntmps47
    go_wp2_with fail
    refine HM.out.mono ?_
    rintro e w' ⟨rfl, rfl⟩
    go_wp2_with fail
    go_ret
    exact ⟨rfl, rfl⟩
  · rw [decide_eq_false hk, Bool.false_and]
    have hk' : (kind == 3) = false := beq_eq_false_iff_ne.2 hk
    clear hk
    go_enter Try.func47, Try.ntmps47
    go_wp2_with fail
    go_ret
    exact ⟨rfl, rfl⟩

/-- With which bits a way is led on. -/
def leadB (b : Nat) (q : Bool) : Nat := 5 + b / 8 % 2 * 8 + (if b / 2 % 2 = 1 ∧ b / 16 % 2 = 1 ∧ q = false then 2 else 0)

theorem or5 {b : Nat} (hb : b < 4294967296) : bits .or .u32 5 (bits .and .u32 (b : Int) 8) = ((5 + b / 8 % 2 * 8 : Nat) : Int) := by
  rw [show (8 : Int) = ((2 ^ 3 : Nat) : Int) from rfl, and_bit b 3 hb (by decide)]
  have e : b / 8 % 2 = b / 2 ^ 3 % 2 := rfl
  rw [e]
  have : b / 2 ^ 3 % 2 = 0 ∨ b / 2 ^ 3 % 2 = 1 := by omega
  rcases this with h | h
  · rw [h]; decide
  · rw [h]; decide

set_option maxHeartbeats 2000000 in
theorem lbits_at {w : World} {mv : Value} {W : Int → Bool} (hm : Wat w mv W) (rv : Value) (b a : Nat) (e d t p : Int) (hb : b < 4294967296) (paged : Bool) (ha : a < 4294967296) :
    Calls Try.prog 10 #[rv, .agg #[.int .u32 b, .int .u32 a, .int .u32 e, .int .i64 d, .int .i64 t, .int .i64 p], .bool paged, mv] w fun en w' => en = .returned (.int .u32 (leadB b (W (if paged then p else (a : Int) / 64)) : Nat)) ∧ w.alloc (.cells #[.int .u32 b, .int .u32 a, .int .u32 e, .int .i64 d, .int .i64 t, .int .i64 p] 34) = w' := by
  have HW := Lib.hid (fun o => hm (w.alloc o) ((Keep.refl _ _).alloc _))
  have h5 := or5 hb
  obtain ⟨z, hz⟩ : ∃ z, z = 5 + b / 8 % 2 * 8 := ⟨_, rfl⟩
  rw [← hz] at h5
  have hz2 : z = 5 ∨ z = 13 := by omega
  clear hm
  by_cases h2 : b / 2 % 2 = 0
  · have e0 : leadB b (W (if paged then p else (a : Int) / 64)) = z := by unfold leadB; rw [hz]; simp [h2]
    rw [e0]
    have m2 : bits .and .u32 (b : Int) 2 = 0 := bit0 (i := 1) hb rfl (by decide) h2
    clear h2 hz hz2 e0
    cases paged
    all_goals
      go_enter Try.func10, Try.ntmps10
      go_wp2_with fail
      go_ret
      exact ⟨rfl, rfl⟩
  · have m2 : bits .and .u32 (b : Int) 2 = 2 := bit1 (i := 1) hb rfl (by decide) h2
    by_cases h16 : b / 16 % 2 = 0
    · have e0 : leadB b (W (if paged then p else (a : Int) / 64)) = z := by unfold leadB; rw [hz]; simp [h16]
      rw [e0]
      have m16 : bits .and .u32 (b : Int) 16 = 0 := bit0 (i := 4) hb rfl (by decide) h16
      clear h2 h16 hz hz2 e0
      cases paged
      all_goals
        go_enter Try.func10, Try.ntmps10
        go_wp2_with fail
        go_ret
        exact ⟨rfl, rfl⟩
    · have m16 : bits .and .u32 (b : Int) 16 = 16 := bit1 (i := 4) hb rfl (by decide) h16
      have e0 : ∀ q, leadB b q = if q = false then z + 2 else z := fun q => by unfold leadB; rw [hz]; cases q <;> simp <;> omega
      rw [e0]
      have hor : bits .or .u32 (z : Int) 2 = ((z + 2 : Nat) : Int) := by
        rcases hz2 with h | h <;> subst h <;> decide
      clear h2 h16 hz hz2 e0
      cases paged
      all_goals
        simp only [Bool.false_eq_true, if_false, if_true]
        first | (obtain ⟨q, hqq⟩ : ∃ q, W ((a : Int) / 64) = q := ⟨_, rfl⟩; rw [hqq]) | (obtain ⟨q, hqq⟩ : ∃ q, W p = q := ⟨_, rfl⟩; rw [hqq])
        have HQ := Lib.hid hqq
        clear hqq
        cases q
        all_goals
          go_enter Try.func10, Try.ntmps10
          go_wp2_with fail
          refine (HW.out _ _).mono ?_
          rintro en w' ⟨rfl, rfl⟩
          rw [HQ.out]
          go_wp2_with fail
          go_ret
          exact ⟨rfl, rfl⟩
end Go.Proofs.Ytnpnedimgfbnhaa
