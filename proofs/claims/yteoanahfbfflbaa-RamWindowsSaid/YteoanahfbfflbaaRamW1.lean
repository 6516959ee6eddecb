/- A window of a memory: which lists may be, and what Window answers. -/
import Derived.Test.YteoanahfbfflbaaRam5
import Derived.Outline
namespace Go.Proofs.Yteoanahfbfflbaa
open Go.RowKit Go.Mum

/-- Are the first k of z frames of n, each once? -/
def okPre (n : Nat) (z : Nat → Int) (k : Nat) : Prop := ∀ i, i < k → (0 ≤ z i ∧ z i < n) ∧ ∀ j, j < i → z j ≠ z i

theorem okPre_zero (n : Nat) (z : Nat → Int) : okPre n z 0 := fun i h => absurd h (by omega)

theorem okPre_mono {n : Nat} {z : Nat → Int} {k j : Nat} (h : okPre n z k) (hj : j ≤ k) : okPre n z j := fun i hi => h i (by omega)

theorem okPre_succ {n : Nat} {z : Nat → Int} {k : Nat} (h : okPre n z k) (h0 : 0 ≤ z k ∧ z k < n) (h1 : ∀ j, j < k → z j ≠ z k) : okPre n z (k + 1) := by
  intro i hi
  by_cases e : i < k
  · exact h i e
  · obtain rfl : i = k := by omega
    exact ⟨h0, h1⟩

theorem okPre_le : ∀ (n : Nat) (z : Nat → Int) (k : Nat), okPre n z k → k ≤ n
  | 0, z, k, h => by
    by_cases hk : k = 0
    · omega
    · have := (h 0 (by omega)).1; omega
  | n + 1, z, k, h => by
    by_cases he : ∃ i, i < k ∧ z i = n
    · obtain ⟨i0, hi0, hz0⟩ := he
      have hg : okPre n (fun i => if i < i0 then z i else z (i + 1)) (k - 1) := by
        have inj : ∀ a b, a < k → b < k → a ≠ b → z a ≠ z b := by
          intro a b ha hb hab
          by_cases hlt : a < b
          · exact (h b hb).2 a hlt
          · exact fun e => (h a ha).2 b (by omega) e.symm
        intro i hi
        refine ⟨?_, fun j hj => ?_⟩
        · by_cases c : i < i0
          · have h1 := (h i (by omega)).1
            have h2 := inj i i0 (by omega) hi0 (by omega)
            simp only [if_pos c]
            omega
          · have h1 := (h (i + 1) (by omega)).1
            have h2 := inj (i + 1) i0 (by omega) hi0 (by omega)
            simp only [if_neg c]
            omega
        · by_cases c : i < i0
          · simp only [if_pos c, if_pos (show j < i0 by omega)]
            exact inj j i (by omega) (by omega) (by omega)
          · by_cases d : j < i0
            · simp only [if_neg c, if_pos d]
              exact inj j (i + 1) (by omega) (by omega) (by omega)
            · simp only [if_neg c, if_neg d]
              exact inj (j + 1) (i + 1) (by omega) (by omega) (by omega)
      have := okPre_le n _ _ hg
      omega
    · have hg : okPre n z k := by
        intro i hi
        have h1 := (h i hi).1
        refine ⟨⟨h1.1, ?_⟩, (h i hi).2⟩
        by_cases e : z i = n
        · exact absurd ⟨i, hi, e⟩ he
        · omega
      have := okPre_le n z k hg
      omega

/-- May a window of this list be? -/
def Fine (n : Nat) (z : Nat → Int) (len : Nat) : Prop := 1 ≤ len ∧ okPre n z len

theorem Fine.le {n : Nat} {z : Nat → Int} {len : Nat} (h : Fine n z len) : len ≤ n := okPre_le n z len h.2

/-- A list of whole numbers that is read. -/
def Nums (w : World) (s : Option Addr) (len : Nat) (z : Nat → Int) : Prop :=
  len = 0 ∨ ∃ b off, s = some ⟨b, off, none⟩ ∧ ∀ i, i < len → w.cell? ⟨b, off + i, none⟩ = some (.int .i64 (z i)) ∧ -9223372036854775808 ≤ z i ∧ z i ≤ 9223372036854775807

theorem Nums.keep0 {w x : World} {s : Option Addr} {len : Nat} {z : Nat → Int} (h : Nums w s len z) (hk : Keep [] w x) : Nums x s len z := by
  rcases h with h | ⟨b, off, h1, h2⟩
  · exact .inl h
  · exact .inr ⟨b, off, h1, fun i hi => ⟨hk.cell (h2 i hi).1 (by simp), (h2 i hi).2⟩⟩

theorem Nums.keep {l : List Nat} {w x : World} {s : Option Addr} {len : Nat} {z : Nat → Int} (h : Nums w s len z) (hk : Keep l w x) (hn : ∀ b, s = some b → b.block ∉ l) : Nums x s len z := by
  rcases h with h | ⟨b, off, h1, h2⟩
  · exact .inl h
  · exact .inr ⟨b, off, h1, fun i hi => ⟨hk.cell (h2 i hi).1 (by simpa using hn _ h1), (h2 i hi).2⟩⟩

/-- The places of a window's frames. -/
def winKs (ks : List Nat) (z : Nat → Int) (len : Nat) : List Nat := (List.range len).map fun i => ks.getD (z i).toNat 0

theorem winKs_length (ks : List Nat) (z : Nat → Int) (len : Nat) : (winKs ks z len).length = len := by simp [winKs]

theorem winKs_getD {ks : List Nat} {z : Nat → Int} {len k : Nat} (h : k < len) : (winKs ks z len).getD k 0 = ks.getD (z k).toNat 0 := by
  simp [winKs, List.getD, h]

/-- What Window leaves. -/
def WinPost (g : Nat) (ks : List Nat) (L : List Int) (z : Nat → Int) (len : Nat) (w : World) (e : Ending) (w' : World) : Prop :=
  (Fine ks.length z len ∧ ∃ r fb, w.heap.size ≤ r ∧ w.heap.size ≤ fb ∧ e = .returned (.tuple #[.pointer (some ⟨r, 0, none⟩), .int .i64 0]) ∧ RamAt w' r fb g (winKs ks z len) L ∧ Keep [] w w') ∨
  (¬ Fine ks.length z len ∧ e = .returned (.tuple #[.pointer none, .int .i64 2]) ∧ Keep [] w w')

/-- The rows of the first k frames of a window. -/
def winRows (g : Nat) (ks : List Nat) (z : Nat → Int) (k : Nat) : List Value := (List.range k).map fun i => .slice (some ⟨g, 64 * ks.getD (z i).toNat 0, none⟩) 64 64

theorem winRows_succ (g : Nat) (ks : List Nat) (z : Nat → Int) (k : Nat) : winRows g ks z (k + 1) = winRows g ks z k ++ [.slice (some ⟨g, 64 * ks.getD (z k).toNat 0, none⟩) 64 64] := by
  simp [winRows, List.range_succ]

/-- Is a frame among the first k? -/
def among (z : Nat → Int) (k j : Nat) : Bool := (List.range k).any fun i => z i == (j : Int)

theorem among_succ (z : Nat → Int) (k j : Nat) : among z (k + 1) j = (among z k j || z k == (j : Int)) := by
  simp [among, List.range_succ, List.any_append]

theorem among_no {z : Nat → Int} {k j : Nat} (h : among z k j = false) : ∀ i, i < k → z i ≠ (j : Int) := by
  intro i hi
  simp only [among, List.any_eq_false, List.mem_range] at h
  simpa using h i hi

theorem among_yes {z : Nat → Int} {k j : Nat} (h : among z k j = true) : ∃ i, i < k ∧ z i = (j : Int) := by
  simp only [among, List.any_eq_true, List.mem_range] at h
  obtain ⟨i, h1, h2⟩ := h
  exact ⟨i, h1, by simpa using h2⟩

/-- How a window stands behind k rounds. -/
structure WinAt (w wr : World) (r2 tb g : Nat) (ks : List Nat) (z : Nat → Int) (k : Nat) (fv : Value) : Prop where
  head : wr.heap[r2]? = some (.cells #[fv] 75 (0, 0))
  taken : ArrAt wr tb 4 ks.length (fun j => .bool (among z k j))
  own : wr.ownsRow (tb + 1) 30 1 fv k (winRows g ks z k)
  keep : Keep [] w wr
  lt : w.heap.size ≤ r2 ∧ r2 < tb ∧ tb < wr.heap.size

/-- One round more. -/
theorem WinAt.more {w wr wt x w1 : World} {r2 tb g : Nat} {ks : List Nat} {z : Nat → Int} {k f : Nat} {fv : Value} (h : WinAt w wr r2 tb g ks z k fv) (hf : z k = (f : Int))
    (ht : wt = wr.setCell ⟨tb, f, none⟩ (.bool true)) (hx : Keep [] wt x) {gg cap : Nat} (ho : w1.ownsRow (tb + 1) 30 1 (.slice (some ⟨gg, 0, none⟩) (k + 1) cap) (k + 1) (winRows g ks z k ++ [.slice (some ⟨g, 64 * ks.getD f 0, none⟩) 64 64])) (hgr : x.grownBy w1 fv.ownBlock) :
    w1.cell? ⟨r2, 0, none⟩ = some fv ∧ w1.frozen? ⟨r2, 0, none⟩ = false ∧ WinAt w (w1.setCell ⟨r2, 0, none⟩ (.slice (some ⟨gg, 0, none⟩) (k + 1) cap)) r2 tb g ks z (k + 1) (.slice (some ⟨gg, 0, none⟩) (k + 1) cap) := by
  have hlo : ∀ b, fv.ownBlock = some b → tb + 1 ≤ b := fun b hb => (h.own.lt b hb).1
  obtain ⟨q1, q2, q3⟩ := h.lt
  have hgk : Keep fv.ownBlock.toList x w1 := ⟨hgr.os, hgr.tape, hgr.output, hgr.size, fun b hb hn => hgr.block b hb (by intro e; rw [← e] at hn; simp at hn)⟩
  have hr1 : r2 ∉ fv.ownBlock.toList := by simp only [Option.mem_toList]; intro e; have := hlo r2 e; omega
  have hr2 : tb ∉ fv.ownBlock.toList := by simp only [Option.mem_toList]; intro e; have := hlo tb e; omega
  have hwt : Keep [tb] wr wt := by rw [ht]; exact (Keep.refl _ _).setCell (.inl (by simp)) _
  have h1 : w1.heap[r2]? = some (.cells #[fv] 75 (0, 0)) := hgk.heap (hx.heap (hwt.heap h.head (by simp; omega)) (by simp)) hr1
  have h2 : ArrAt w1 tb 4 ks.length (fun j => .bool (among z (k + 1) j)) := by
    have h3 : ArrAt wt tb 4 ks.length (fun j => .bool (among z (k + 1) j)) := by
      rw [ht]
      refine (h.taken.set f (.bool true)).ext fun j _ => ?_
      rw [among_succ, hf]
      by_cases e : j = f
      · subst e; simp
      · have : ((f : Int) == (j : Int)) = false := by simp; omega
        simp [e, this]
    exact (h3.keep hx (by simp)).keep hgk hr2
  have hgg := ho.lt gg rfl
  have hs1 : wr.heap.size ≤ wt.heap.size := hwt.size
  have hs2 := hx.size
  have hs3 := hgr.size
  have hst : Keep [r2] w1 (w1.setCell ⟨r2, 0, none⟩ (.slice (some ⟨gg, 0, none⟩) (k + 1) cap)) := (Keep.refl _ _).setCell (.inl (by simp)) _
  refine ⟨cell_of h1 0 rfl, frozen_of h1 0, heap_set_same h1 0 _, h2.keep hst (by simp; omega), ?_, ?_, q1, q2, ?_⟩
  · rw [winRows_succ, hf, Int.toNat_natCast]
    exact owns_keep ho hst (by intro b hb; simp [Value.ownBlock] at hb; simp; omega)
  · have k1 : Keep [] w wt := h.keep.then hwt (by simp; omega)
    have k2 : Keep [] w w1 := (k1.trans hx).then hgk (fun b hb hlt => by rw [Option.mem_toList] at hb; have := hlo b hb; omega)
    exact k2.then hst (by simp; omega)
  · have := hst.size; omega

theorem WinAt.done {w wr : World} {r fb r2 tb g : Nat} {ks : List Nat} {L : List Int} {z : Nat → Int} {len : Nat} {fv : Value} (h : WinAt w wr r2 tb g ks z len fv) (hr : RamAt w r fb g ks L) (hf : Fine ks.length z len) :
    WinPost g ks L z len w (.returned (.tuple #[.pointer (some ⟨r2, 0, none⟩), .int .i64 0])) wr := by
  obtain ⟨q1, q2, q3⟩ := h.lt
  have hle := hf.le
  have hR := hr.keep0 h.keep
  have hsz := hR.size
  obtain ⟨gg, cap, rfl, hb, hgl⟩ := World.ownsRow.form h.own (by have := hf.1; omega)
  obtain ⟨p1, p2, cur, p3, p4⟩ : len ≤ cap ∧ cap ≤ maxLen ∧ ∃ cur : Array Value, wr.heap[gg]? = some (.cells cur 30 (0, 0)) ∧ cur.toList.take len = winRows g ks z len := by
    rcases h.own.2 with ⟨e, _⟩ | ⟨g', cap', cur, e, _, hg', h1, h2, _, h4⟩
    · cases e
    · simp only [Value.slice.injEq, Option.some.injEq, Addr.mk.injEq] at e
      obtain ⟨⟨rfl, _⟩, _, rfl⟩ := e
      exact ⟨h1, h2, cur, hg', by simpa using h4⟩
  refine .inl ⟨hf, r2, gg, q1, by omega, rfl, ⟨⟨cap, ?_⟩, ⟨cur, p3, ?_⟩, hR.data, hR.bytes, ?_, ?_⟩, h.keep⟩
  · rw [winKs_length]; exact ⟨h.head, p1, p2⟩
  · intro j hj
    rw [winKs_length] at hj
    have := congrArg (fun l => l[j]?) p4
    simp only [List.getElem?_take, hj, if_true, Array.getElem?_toList] at this
    rw [this, winKs_getD hj]
    simp [winRows, hj]
  · intro j hj
    rw [winKs_length] at hj
    rw [winKs_getD hj]
    have := (hf.2 j hj).1
    exact hR.fits _ (by omega)
  · rw [winKs_length]; have := hf.1; omega
end Go.Proofs.Yteoanahfbfflbaa
