/- Contracts of the functions that the law reaches, walked, and the plain laws on them (several texts in one). -/
import Derived.StillTailTactics
import Derived.Outline
import Derived.RegionTactic
import Derived.Deep.RegionHeld3
import Derived.Laws.BitsLemmas
import Derived.Lib.EndianBits
import Derived.Test.YtpinoejckagjbaaM03
import Derived.Test.YtpinoejckagjbaaM01

/- The document's memory: words and bytes laid, frames. -/
namespace Go.Proofs.Ytpinoejckagjbaa
open Go.RowKit Go.Mum

theorem le4_take {s : Nat} (hs : s < 4294967296) : ∀ k, k < 4 → (le4 s).take (k + 1) = (le4 s).take k ++ [((s / 256 ^ k % 256 : Nat) : Int)]
  | 0, _ => by simp [le4]
  | 1, _ => by simp [le4]
  | 2, _ => by simp [le4]
  | 3, _ => by simp [le4]; omega
  | k + 4, h => by omega

theorem splice_snoc (L : List Int) (p : Nat) (M : List Int) (x : Int) (h : p + M.length < L.length) : (splice L p M).set (p + M.length) x = splice L p (M ++ [x]) := by
  unfold splice
  rw [List.set_append_right _ _ (by rw [List.length_take]; omega), List.length_take, Nat.min_eq_left (by omega), Nat.add_sub_cancel_left, List.set_append_right _ _ (Nat.le_refl _), Nat.sub_self,
    List.drop_eq_getElem_cons h, List.set_cons_zero, List.length_append, List.append_assoc]
  rfl

theorem splice_len (L : List Int) (p : Nat) (M : List Int) (h : p + M.length ≤ L.length) : (splice L p M).length = L.length := length_splice L p M h

theorem refAt_put {w x : World} {q : Nat} {L L' : List Int} (h : RefAt w (some ⟨q, 0, none⟩) L) (hq : x.heap[q]? = some (.cells (u8s L').toArray 5 (0, 0))) (hb : IsBytes L') (hl : L'.length = L.length) : RefAt x (some ⟨q, 0, none⟩) L' :=
  ⟨.inr ⟨q, rfl, hq⟩, hb, by rw [hl]; exact h.2.2⟩

theorem take_snoc {M : List Int} {j : Nat} (h : j < M.length) : M.take (j + 1) = M.take j ++ [M.getD j 0] := by
  rw [List.take_add_one, List.getElem?_eq_getElem h]
  simp [List.getD, List.getElem?_eq_getElem h]

end Go.Proofs.Ytpinoejckagjbaa

/- The document's memory: copies and frames. -/
namespace Go.Proofs.Ytpinoejckagjbaa
open Go.RowKit Go.Mum

/-- What a call that hands back bytes leaves. -/
def RowPost (M : List Int) (w : World) (e : Ending) (w' : World) : Prop := ∃ a c, e = .returned (.slice a M.length c) ∧ Row w' a c M ∧ Keep [] w w'

theorem rowPost_own {M : List Int} {w : World} {e : Ending} {w' : World} (h : OwnPost M w e w') : RowPost M w e w' := by
  obtain ⟨v, rfl, ho, hk⟩ := h
  obtain ⟨a, c, rfl, hr⟩ := ho.shape
  exact ⟨a, c, rfl, hr, hk⟩

theorem rowPost_none {w : World} : RowPost [] w (.returned (.slice none 0 0)) w := ⟨Option.none, 0, rfl, Row.nil w, Keep.refl _ _⟩

theorem own_grown {w x y : World} {v : Value} (h : Keep [] w x) (hg : x.grownBy y v.ownBlock) {L : List Int} (ho : Own x w.heap.size 5 v L) : Keep [] w y :=
  h.grown hg fun k hk => .inr (ho.block k hk).1

/-- What Copy leaves. -/
def FCopyPost (L : List Int) (w : World) (e : Ending) (w' : World) : Prop := ∃ v, e = .returned (.agg #[v]) ∧ Own w' w.heap.size 5 v L ∧ Keep [] w w'

end Go.Proofs.Ytpinoejckagjbaa

/- A region whose order is drawn: the condition on the world may grow as the calls come back. -/
namespace Go.Mum
open Go.RowKit

section
variable {P : Program} {ops : Array Oper} {Q : Exit → Act → World → Prop} {md : Region.Mode} {S S' : World → Prop}

theorem wpAnyH_grow (h : ∀ w, S' w → S w) : ∀ (fuel : Nat) (listed : Array Bool) (a : Act) (w : World), wpAnyH P md ops Q S' fuel listed a w → wpAnyH P md ops Q S fuel listed a w
  | 0, _, _, _, q => q
  | fuel + 1, _, _, _, q => ⟨q.1, fun i hi => wpOp_mono (fun a' w' r => ⟨h _ r.1, wpAnyH_grow h fuel _ a' w' r.2⟩) (q.2 i hi)⟩

/-- Behind a call: the region goes on under a condition that says more. -/
theorem shut_grow {fuel : Nat} {listed : Array Bool} {K : Act → World → Prop} (S' : World → Prop) (hK : Shut (∀ a w, S w → (S w → wpAnyH P md ops Q S fuel listed a w) → K a w)) (h : ∀ w, S' w → S w)
    {a : Act} {w : World} (hS : S' w) (hw : S' w → wpAnyH P md ops Q S' fuel listed a w) : K a w :=
  hK.out a w (h w hS) fun _ => wpAnyH_grow h fuel listed a w (hw hS)
end
end Go.Mum

/- What the statements on memories share: made, near. -/
namespace Go.Proofs.Ytpinoejckagjbaa
open Go.RowKit Go.Mum

/-- A memory and the document's, with the same bytes. -/
structure Both (w : World) (r fb g q n : Nat) (L : List Int) : Prop where
  ram : RamAt w r fb g (List.range n) L
  ref : RefAt w (some ⟨q, 0, none⟩) L
  len : L.length = 64 * n
  qs : q ≠ r ∧ q ≠ fb ∧ q ≠ g
  n1 : 1 ≤ n ∧ n ≤ 16
  qd : w.heap[q]? = some (.cells (u8s L).toArray 5 (0, 0))

theorem Both.keep {l : List Nat} {w x : World} {r fb g q n : Nat} {L : List Int} (h : Both w r fb g q n L) (hk : Keep l w x) (h1 : r ∉ l) (h2 : fb ∉ l) (h3 : g ∉ l) (h4 : q ∉ l) : Both x r fb g q n L :=
  ⟨h.ram.keep hk h1 h2 h3, h.ref.keep hk (by simpa using h4), h.len, h.qs, h.n1, hk.heap h.qd h4⟩

theorem Both.keep0 {w x : World} {r fb g q n : Nat} {L : List Int} (h : Both w r fb g q n L) (hk : Keep [] w x) : Both x r fb g q n L := h.keep hk (by simp) (by simp) (by simp) (by simp)

theorem Both.lt {w : World} {r fb g q n : Nat} {L : List Int} (h : Both w r fb g q n L) : r < w.heap.size ∧ fb < w.heap.size ∧ g < w.heap.size ∧ q < w.heap.size :=
  ⟨h.ram.lt.1, h.ram.lt.2.1, h.ram.lt.2.2, lt_of_heap h.qd⟩

/-- Only the two blocks of bytes were turned; or the same and new ones. -/
theorem Both.set {w x : World} {r fb g q n : Nat} {L L' : List Int} (h : Both w r fb g q n L) (hl : L'.length = L.length) (hr : RamAt x r fb g (List.range n) L') (hq : x.heap[q]? = some (.cells (u8s L').toArray 5 (0, 0))) : Both x r fb g q n L' :=
  ⟨hr, ⟨.inr ⟨q, rfl, hq⟩, hr.bytes, by rw [hl]; exact h.ref.2.2⟩, by rw [hl]; exact h.len, h.qs, h.n1, hq⟩

/-- The address that a statement asks for. -/
def near (a : Nat) : Nat := if a % 3 = 0 then a else a % 400

theorem near_lt {a : Nat} (h : a < 4294967296) : near a < 4294967296 := by unfold near; split <;> omega

/-- What made leaves. -/
def MadePost (w : World) (e : Ending) (w' : World) : Prop :=
  ∃ r fb g q n, n ≤ 5 ∧ w.heap.size ≤ r ∧ w.heap.size ≤ fb ∧ w.heap.size ≤ g ∧ w.heap.size ≤ q ∧ e = .returned (.tuple #[.pointer (some ⟨r, 0, none⟩), .agg #[.slice (some ⟨q, 0, none⟩) (64 * n) (64 * n)]]) ∧
    Both w' r fb g q n (List.replicate (64 * n) 0) ∧ Keep [] w w'

end Go.Proofs.Ytpinoejckagjbaa

/- What the statements on memories share: the pair, call by call. -/
namespace Go.Proofs.Ytpinoejckagjbaa
open Go.RowKit Go.Mum

theorem getD_splice_in {L M : List Int} {p j : Nat} (hj : j < M.length) (h : p + M.length ≤ L.length) : (splice L p M).getD (p + j) 0 = M.getD j 0 := by
  unfold splice
  simp only [List.getD]
  rw [List.getElem?_append_right (by rw [List.length_take]; omega), List.length_take, Nat.min_eq_left (by omega), Nat.add_sub_cancel_left, List.getElem?_append_left hj]

theorem getD_splice_out {L M : List Int} {p j : Nat} (hj : j < p ∨ p + M.length ≤ j) (h : p + M.length ≤ L.length) : (splice L p M).getD j 0 = L.getD j 0 := by
  unfold splice
  simp only [List.getD]
  rcases hj with hj | hj
  · rw [List.getElem?_append_left (by rw [List.length_take]; omega), List.getElem?_take_of_lt hj]
  · rw [List.getElem?_append_right (by rw [List.length_take]; omega), List.length_take, Nat.min_eq_left (by omega), List.getElem?_append_right (by omega), List.getElem?_drop]
    congr 2
    omega

theorem word4_splice {L : List Int} {p z : Nat} (h : p + 4 ≤ L.length) : word4 (splice L p (le4 z)) p = (z : Int) := by
  have e : ∀ j, j < 4 → (splice L p (le4 z)).getD (p + j) 0 = (le4 z).getD j 0 := fun j hj => getD_splice_in (by simpa [le4] using hj) (by simpa [le4] using h)
  have e0 := e 0 (by omega)
  rw [Nat.add_zero] at e0
  unfold word4
  rw [e0, e 1 (by omega), e 2 (by omega), e 3 (by omega)]
  simp [le4]
  omega

/-- In a memory that New made bytes lie side by side. -/
theorem putAt_range (n : Nat) : ∀ (M L : List Int) (a : Nat), a + M.length ≤ 64 * n → L.length = 64 * n → putAt (List.range n) L a M = splice L a M
  | [], L, a, _, _ => by rw [splice_nil]; rfl
  | x :: M, L, a, h, hl => by
    rw [List.length_cons] at h
    rw [putAt, pl_range (by omega), putAt_range n M _ (a + 1) (by omega) (by rw [List.length_set]; exact hl), splice_cons L a x M (by omega)]

end Go.Proofs.Ytpinoejckagjbaa

/- Bytes laid of which there may be none. -/
namespace Go.Proofs.Ytpinoejckagjbaa
open Go.RowKit Go.Mum

set_option maxRecDepth 100000 in
set_option maxHeartbeats 1000000 in
theorem rlay_empty {w : World} {r fb g : Nat} {ks : List Nat} {L : List Int} (h : RamAt w r fb g ks L) (a : Nat) (hyes : a ≤ 64 * ks.length) {src : Option Addr} {c : Nat} :
    Calls Try.prog 77 #[.int .u32 a, .slice src 0 c, .int .i64 1, .func (.func 78) #[.pointer (some ⟨r, 0, none⟩)] #[], .func (.func 79) #[.pointer (some ⟨r, 0, none⟩)] #[]] w fun e w' => e = .returned (.bool true) ∧ w = w' := by
  have hs := h.size
  have C := rwithin_any h.sz a 0 1 (by omega) (by omega) (.inl rfl)
  rw [decide_eq_true (by omega)] at C
  have C := Lib.hid C
  clear h
  go_enter Try.func77, Try.ntmps77
  go_wp2_with fail
  refine C.out.mono ?_
  rintro e w' ⟨rfl, rfl⟩
  go_wp2_with fail
  refine wp_loop_rounds 1 ?_
  rw [rounds_succ]
  go_wp2_with fail
  go_ret
  exact ⟨rfl, rfl⟩

set_option maxHeartbeats 1000000 in
theorem rfill_all {w : World} {r fb g : Nat} {ks : List Nat} {L : List Int} (h : RamAt w r fb g ks L) (a : Nat) (ha : a < 4294967296) {src : Option Addr} {c : Nat} {M : List Int}
    (hM : Row w src c M) (hsrc : M = [] ∨ ∀ b, src = some b → b.block ≠ g) (hl : M.length ≤ 9223372036854775807) :
    Calls Try.prog 44 #[.pointer (some ⟨r, 0, none⟩), .int .u32 a, .slice src M.length c] w (LayPost r fb g ks L a M 1 w) := by
  rcases hsrc with h0 | hsrc
  · subst h0
    by_cases hyes : a ≤ 64 * ks.length
    · have C := Lib.hid (rlay_empty h a hyes (src := src) (c := c))
      have hmf : ∀ (fn : Fn) (first cap : Array Value) (w : World), (Instr.makeFunc fn first cap).run Try.prog w = .ok (.func fn first cap) w := fun _ _ _ _ => rfl
      have HF : Hid (LayPost r fb g ks L a [] 1 w (.returned (.bool true)) w) := Lib.hid ⟨by rw [layB_yes (by simp; omega)], by rw [if_pos (layB_yes (by simp; omega))]; exact h, Keep.refl _ _⟩
      clear h hM
      go_enter Try.func44, Try.ntmps44
      go_wp2_with fail
      refine C.out.mono ?_
      rintro e w' ⟨rfl, rfl⟩
      go_wp2_with fail
      go_ret
      exact HF.out
    · have C := Lib.hid (rlay_no h.sz a ha 1 (.inl rfl) (src := src) (c := c) 0 (by omega) (by omega))
      have hmf : ∀ (fn : Fn) (first cap : Array Value) (w : World), (Instr.makeFunc fn first cap).run Try.prog w = .ok (.func fn first cap) w := fun _ _ _ _ => rfl
      have HF : Hid (LayPost r fb g ks L a [] 1 w (.returned (.bool false)) w) := Lib.hid ⟨by rw [layB_no (by simp; omega)], by rw [if_neg (by rw [layB_no (by simp; omega)]; simp)]; exact h, Keep.refl _ _⟩
      clear h hM
      go_enter Try.func44, Try.ntmps44
      go_wp2_with fail
      refine C.out.mono ?_
      rintro e w' ⟨rfl, rfl⟩
      go_wp2_with fail
      go_ret
      exact HF.out
  · exact rfill_any h a ha hM hsrc hl
end Go.Proofs.Ytpinoejckagjbaa

/- The pair, call by call: both lay alike. -/
namespace Go.Proofs.Ytpinoejckagjbaa
open Go.RowKit Go.Mum

/-- The bytes behind a call that lays M at a, if it may. -/
def laid (n : Nat) (L : List Int) (a : Nat) (M : List Int) (al : Nat) : List Int := if layB n a M.length al = true then splice L a M else L

theorem laid_length {n a al : Nat} {L M : List Int} (hl : L.length = 64 * n) : (laid n L a M al).length = L.length := by
  unfold laid
  split
  · rename_i h
    have := of_decide_eq_true h
    rw [splice_len]
    omega
  · rfl

/-- What a memory's call that lays bytes leaves. -/
def RPost (r fb g n : Nat) (L : List Int) (a : Nat) (M : List Int) (al : Nat) (w : World) (e : Ending) (w' : World) : Prop :=
  e = .returned (.bool (layB n a M.length al)) ∧ RamAt w' r fb g (List.range n) (laid n L a M al) ∧ Keep [g] w w'

theorem rpost_of {r fb g n a al : Nat} {L M : List Int} {w w' : World} {e : Ending} (hl : L.length = 64 * n) (h : LayPost r fb g (List.range n) L a M al w e w') : RPost r fb g n L a M al w e w' := by
  obtain ⟨h1, h2, h3⟩ := h
  rw [List.length_range] at h1 h2
  refine ⟨h1, ?_, h3⟩
  unfold laid
  by_cases hb : layB n a M.length al = true
  · rw [if_pos hb] at h2 ⊢
    have := of_decide_eq_true hb
    rw [putAt_range n M L a this.2 hl] at h2
    exact h2
  · rw [if_neg hb] at h2 ⊢
    exact h2

section
variable {w : World} {r fb g q n : Nat} {L : List Int}

theorem bsetword_r (h : Both w r fb g q n L) (a : Nat) (ha : a < 4294967296) (z : Nat) (hz : z < 4294967296) :
    Calls Try.prog 82 #[.pointer (some ⟨r, 0, none⟩), .int .u32 a, .int .u32 z] w (RPost r fb g n L a (le4 z) 4 w) :=
  (rsetword_any h.ram a ha z hz).mono fun _ _ => rpost_of h.len

theorem bfill_r (h : Both w r fb g q n L) (a : Nat) (ha : a < 4294967296) {src : Option Addr} {c : Nat} {M : List Int} (hM : Row w src c M) (hsrc : M = [] ∨ ∀ b, src = some b → b.block ≠ g) (hl : M.length ≤ 9223372036854775807) :
    Calls Try.prog 44 #[.pointer (some ⟨r, 0, none⟩), .int .u32 a, .slice src M.length c] w (RPost r fb g n L a M 1 w) :=
  (rfill_all h.ram a ha hM hsrc hl).mono fun _ _ => rpost_of h.len

/-- The document's memory alone: as much as a call needs of it. -/
structure RefN (w : World) (q n : Nat) (L : List Int) : Prop where
  ref : RefAt w (some ⟨q, 0, none⟩) L
  len : L.length = 64 * n

theorem Both.refN (h : Both w r fb g q n L) : RefN w q n L := ⟨h.ref, h.len⟩

/-- What the document's call leaves. -/
def DPost (q n : Nat) (L : List Int) (a : Nat) (M : List Int) (al : Nat) (w : World) (e : Ending) (w' : World) : Prop :=
  e = .returned (.bool (layB n a M.length al)) ∧ RefAt w' (some ⟨q, 0, none⟩) (laid n L a M al) ∧ Keep [q] w w'

theorem dpost_yes {a al : Nat} {M : List Int} {w' : World} {e : Ending} (hy : layB n a M.length al = true) (h : FPost (some ⟨q, 0, none⟩) (splice L a M) true w e w') : DPost q n L a M al w e w' := by
  obtain ⟨h1, h2, l, h3, h4⟩ := h
  refine ⟨by rw [hy]; exact h1, by unfold laid; rw [if_pos hy]; exact h2, h4.weaken fun k hk _ => ?_⟩
  obtain ⟨_, e⟩ := h3 k hk
  cases e
  simp

theorem dpost_no {a al : Nat} {M : List Int} {w' : World} {e : Ending} (hy : layB n a M.length al = false) (h : FPost (some ⟨q, 0, none⟩) L false w e w') : DPost q n L a M al w e w' := by
  obtain ⟨h1, h2, l, h3, h4⟩ := h
  refine ⟨by rw [hy]; exact h1, by unfold laid; rw [if_neg (by rw [hy]; simp)]; exact h2, h4.weaken fun k hk _ => ?_⟩
  obtain ⟨_, e⟩ := h3 k hk
  cases e
  simp

theorem splice_one (L : List Int) (a : Nat) (z : Int) (h : a < L.length) : splice L a [z] = L.set a z := by
  rw [← splice_cons L a z [] h, splice_nil]

end
end Go.Proofs.Ytpinoejckagjbaa

/- Have both memories the same bytes? -/
namespace Go.Proofs.Ytpinoejckagjbaa
open Go.RowKit Go.Mum

/-- How bytes read as a string. -/
def Str (x : World) (a : Option Addr) (k c : Nat) (M : List Int) : Prop := (convert 48 9 (.slice a k c)).run Try.prog x = .ok (.string (strOfNums M)) x
theorem str_of {x : World} {a : Option Addr} {k c : Nat} {M : List Int} (h : Row x a c M) (hk : k = M.length) : Str x a k c M := run_string (P := Try.prog) Try.underlying48 Try.underlying5 h k hk _ Try.underlying9

theorem frameOf_range {n k : Nat} (L : List Int) (hk : k < n) : frameOf (List.range n) L k = (L.drop (64 * k)).take 64 := by
  unfold frameOf
  simp [List.getD, List.getElem?_range hk]

/-- The answer is true, and nothing that was there has been turned. -/
def True1 (w : World) (e : Ending) (w' : World) : Prop := e = .returned (.bool true) ∧ Keep [] w w'

end Go.Proofs.Ytpinoejckagjbaa

/- The pair, call by call: both read alike. -/
namespace Go.Proofs.Ytpinoejckagjbaa
open Go.RowKit Go.Mum

/-- The word at an address, 0 where there is none. -/
def wordAt (n : Nat) (L : List Int) (a : Nat) : Int := if layB n a 4 4 = true then word4 L a else 0

section
variable {w : World} {r fb g q n : Nat} {L : List Int}

def RdPost (v : Value) (ok : Bool) (w : World) (e : Ending) (w' : World) : Prop := e = .returned (.tuple #[v, .bool ok]) ∧ Keep [] w w'

theorem bword_r (h : Both w r fb g q n L) (a : Nat) (ha : a < 4294967296) :
    Calls Try.prog 49 #[.pointer (some ⟨r, 0, none⟩), .int .u32 a] w (RdPost (.int .u32 (wordAt n L a)) (layB n a 4 4) w) := by
  unfold wordAt
  by_cases hy : a % 4 = 0 ∧ a < 64 * n
  · have hb : layB n a 4 4 = true := layB_yes (by omega)
    rw [if_pos hb, hb]
    refine (rword_yes h.ram a hy.1 (by rw [List.length_range]; exact hy.2)).mono ?_
    rintro e w' ⟨rfl, m, rfl⟩
    exact ⟨by rw [pl_range hy.2], (Keep.refl _ _).drewN _⟩
  · have hb : layB n a 4 4 = false := layB_no (by omega)
    rw [if_neg (by rw [hb]; simp), hb]
    refine (rword_no h.ram.sz a ha (by rw [List.length_range]; exact hy)).mono ?_
    rintro e w' ⟨rfl, rfl⟩
    exact ⟨rfl, Keep.refl _ _⟩

/-- The bytes of a frame, none where there is none. -/
def frameAt (n : Nat) (L : List Int) (k : Int) : List Int := if 0 ≤ k ∧ k < n then (L.drop (64 * k.toNat)).take 64 else []

theorem bframe_r (h : Both w r fb g q n L) (k : Int) (h1 : -9223372036854775808 ≤ k) (h2 : k ≤ 9223372036854775807) :
    Calls Try.prog 19 #[.pointer (some ⟨r, 0, none⟩), .int .i64 k] w (RowPost (frameAt n L k) w) := by
  unfold frameAt
  by_cases hy : 0 ≤ k ∧ k < n
  · rw [if_pos hy]
    obtain ⟨m, rfl⟩ : ∃ m : Nat, k = m := ⟨k.toNat, by omega⟩
    refine (rframe_yes h.ram m (by rw [List.length_range]; omega)).mono ?_
    intro e w' hp
    rw [frameOf_range L (by omega)] at hp
    rw [Int.toNat_natCast]
    exact rowPost_own hp
  · rw [if_neg hy]
    refine (rframe_no h.ram.sz k h1 h2 (by rw [List.length_range]; omega)).mono ?_
    rintro e w' ⟨rfl, rfl⟩
    exact rowPost_none

end
end Go.Proofs.Ytpinoejckagjbaa

/- Bits of entries: laws on numbers alone. -/
namespace Go.Mum
open Go.RowKit

theorem and_u32 (a b : Nat) (ha : a < 4294967296) (hb : b < 4294967296) : bits .and .u32 (a : Int) (b : Int) = ((a &&& b : Nat) : Int) := (bits_nat .u32 32 (by decide) wraps_u32 a b ha hb).1
theorem or_u32 (a b : Nat) (ha : a < 4294967296) (hb : b < 4294967296) : bits .or .u32 (a : Int) (b : Int) = ((a ||| b : Nat) : Int) := (bits_nat .u32 32 (by decide) wraps_u32 a b ha hb).2

/-- 'a &^ 63'. -/
theorem andNot63 (a : Nat) (ha : a < 4294967296) : bits .andNot .u32 (a : Int) 63 = ((a / 64 * 64 : Nat) : Int) := by
  have h1 : (BitVec.ofInt 32 (a : Int)).toNat = a := by
    rw [BitVec.ofInt_natCast, BitVec.toNat_ofNat]; exact Nat.mod_eq_of_lt (by omega)
  show IntKind.u32.wrap ((BitVec.ofInt 32 (a : Int) &&& ~~~BitVec.ofInt 32 63).toNat : Int) = _
  have e : (BitVec.ofInt 32 (a : Int) &&& ~~~BitVec.ofInt 32 63).toNat = a / 64 * 64 := by
    apply Nat.eq_of_testBit_eq
    intro i
    rw [BitVec.toNat_and, Nat.testBit_and, h1, BitVec.testBit_toNat, BitVec.getLsbD_not, show a / 64 * 64 = 2 ^ 6 * (a / 2 ^ 6) by rw [Nat.mul_comm], Nat.testBit_two_pow_mul, Nat.testBit_div_two_pow]
    by_cases hi : i < 6
    · have : i = 0 ∨ i = 1 ∨ i = 2 ∨ i = 3 ∨ i = 4 ∨ i = 5 := by omega
      rcases this with rfl | rfl | rfl | rfl | rfl | rfl <;> simp
    · have h6 : 6 ≤ i := by omega
      rw [show i - 6 + 6 = i by omega]
      by_cases h32 : i < 32
      · have hz : (BitVec.ofInt 32 63).getLsbD i = false := by
          rw [show (63 : Int) = ((63 : Nat) : Int) by rfl, BitVec.ofInt_natCast, BitVec.getLsbD_ofNat]
          have : (63 : Nat).testBit i = false := Nat.testBit_lt_two_pow (Nat.lt_of_lt_of_le (show 63 < 2 ^ 6 by decide) (Nat.pow_le_pow_right (by decide) h6))
          simp [this]
        rw [hz]
        simp [h6, h32]
      · have : a.testBit i = false := Nat.testBit_lt_two_pow (Nat.lt_of_lt_of_le (show a < 2 ^ 32 by omega) (Nat.pow_le_pow_right (by decide) (by omega)))
        simp [this]
  rw [e, IntKind.wrap_u32]
  omega

/-- One bit. -/
theorem and_pow (a i : Nat) : a &&& 2 ^ i = a / 2 ^ i % 2 * 2 ^ i := by
  apply Nat.eq_of_testBit_eq
  intro j
  rw [Nat.testBit_and, Nat.testBit_two_pow, Nat.mul_comm, Nat.testBit_two_pow_mul]
  by_cases h : i = j
  · subst h
    simp only [decide_true, Bool.and_true, Nat.le_refl, Nat.sub_self, Nat.testBit_zero, Bool.true_and]
    rw [Nat.testBit_eq_decide_div_mod_eq]
    congr 1
    rw [eq_iff_iff]
    omega
  · by_cases hl : i ≤ j
    · have : (a / 2 ^ i % 2).testBit (j - i) = false := Nat.testBit_lt_two_pow (Nat.lt_of_lt_of_le (Nat.mod_lt _ (by decide)) (show 2 ^ 1 ≤ 2 ^ (j - i) from Nat.pow_le_pow_right (by decide) (by omega)))
      simp [h, this]
    · simp [h, hl]

/-- The bits of two entries together, as the code reckons them. -/
def bothN (x y : Nat) : Nat := (((7 &&& (x ||| 8)) ||| (x &&& 8)) &&& (y ||| 8)) ||| (y &&& 8)
/-- .. and as the document says. -/
def refBits (x y : Nat) : Nat := 1 + (if x / 2 % 2 = 1 ∧ y / 2 % 2 = 1 then 2 else 0) + (if x / 4 % 2 = 1 ∧ y / 4 % 2 = 1 then 4 else 0) + (if x / 8 % 2 = 1 ∨ y / 8 % 2 = 1 then 8 else 0) + (if y / 16 % 2 = 1 then 16 else 0)

theorem both_mod (x y : Nat) : bothN x y ||| (y &&& 16) = bothN (x % 32) (y % 32) ||| (y % 32 &&& 16) := by
  apply Nat.eq_of_testBit_eq
  intro i
  unfold bothN
  simp only [Nat.testBit_or, Nat.testBit_and, show 32 = 2 ^ 5 by rfl, Nat.testBit_mod_two_pow]
  by_cases h : i < 5
  · simp [h]
  · have h5 : 2 ^ 5 ≤ 2 ^ i := Nat.pow_le_pow_right (by decide) (by omega)
    have t7 : (7 : Nat).testBit i = false := Nat.testBit_lt_two_pow (Nat.lt_of_lt_of_le (by decide) h5)
    have t8 : (8 : Nat).testBit i = false := Nat.testBit_lt_two_pow (Nat.lt_of_lt_of_le (by decide) h5)
    have t16 : (16 : Nat).testBit i = false := Nat.testBit_lt_two_pow (Nat.lt_of_lt_of_le (by decide) h5)
    simp [h, t7, t8, t16]

theorem both_all : ∀ x y : Fin 32, x.val % 2 = 1 → y.val % 2 = 1 → bothN x.val y.val ||| (y.val &&& 16) = refBits x.val y.val := by decide +kernel

theorem both_ref (x y : Nat) (hx : x % 2 = 1) (hy : y % 2 = 1) : bothN x y ||| (y &&& 16) = refBits x y := by
  have h := both_all ⟨x % 32, Nat.mod_lt _ (by decide)⟩ ⟨y % 32, Nat.mod_lt _ (by decide)⟩ (by simp; omega) (by simp; omega)
  simp only at h
  rw [both_mod, h]
  unfold refBits
  have e1 : x % 32 / 2 % 2 = x / 2 % 2 := by omega
  have e2 : y % 32 / 2 % 2 = y / 2 % 2 := by omega
  have e3 : x % 32 / 4 % 2 = x / 4 % 2 := by omega
  have e4 : y % 32 / 4 % 2 = y / 4 % 2 := by omega
  have e5 : x % 32 / 8 % 2 = x / 8 % 2 := by omega
  have e6 : y % 32 / 8 % 2 = y / 8 % 2 := by omega
  have e7 : y % 32 / 16 % 2 = y / 16 % 2 := by omega
  rw [e1, e2, e3, e4, e5, e6, e7]

theorem bothN_lt (x y : Nat) : bothN x y < 16 := by
  unfold bothN
  have h1 : (y &&& 8) < 16 := Nat.lt_of_le_of_lt Nat.and_le_right (by decide)
  have h2 : (7 &&& (x ||| 8)) < 16 := Nat.lt_of_le_of_lt Nat.and_le_left (by decide)
  have h3 : (x &&& 8) < 16 := Nat.lt_of_le_of_lt Nat.and_le_right (by decide)
  have h4 : (7 &&& (x ||| 8)) ||| (x &&& 8) < 16 := Nat.or_lt_two_pow (n := 4) h2 h3
  have h5 : ((7 &&& (x ||| 8)) ||| (x &&& 8)) &&& (y ||| 8) < 16 := Nat.lt_of_le_of_lt Nat.and_le_left h4
  exact Nat.or_lt_two_pow (n := 4) h5 h1

theorem refBits_lt (x y : Nat) : refBits x y < 32 := by unfold refBits; (repeat' split) <;> omega

/-- A bit that is not there is laid. -/
theorem or_bit (x i : Nat) (hi : i < 32) (hx : x < 4294967296) (h : x / 2 ^ i % 2 = 0) : x ||| 2 ^ i = x + 2 ^ i := by
  have hp : 2 ^ i < 4294967296 := Nat.pow_lt_pow_right (a := 2) (n := 32) (by decide) hi
  have ht : x.testBit i = false := by rw [Nat.testBit_eq_decide_div_mod_eq, h]; rfl
  have e : BitVec.ofNat 32 x &&& BitVec.ofNat 32 (2 ^ i) = 0#32 := by
    apply BitVec.eq_of_toNat_eq
    rw [BitVec.toNat_and, BitVec.toNat_ofNat, BitVec.toNat_ofNat, Nat.mod_eq_of_lt (by omega), Nat.mod_eq_of_lt (by omega), and_pow, h]
    simp
  have h1 := BitVec.add_eq_or_of_and_eq_zero _ _ e
  have hsum : x + 2 ^ i < 4294967296 := by
    have h2 : x < 2 ^ 32 := by omega
    have := Nat.or_lt_two_pow (n := 32) h2 (show 2 ^ i < 2 ^ 32 by omega)
    -- the bits above i and below: x = q * 2^(i+1) + r with r < 2^i
    have hq : x / 2 ^ i = 2 * (x / 2 ^ i / 2) := by omega
    have hd := Nat.div_add_mod x (2 ^ i)
    have hr := Nat.mod_lt x (Nat.two_pow_pos i)
    have hk : 2 ^ (i + 1) * (x / 2 ^ i / 2) = 2 ^ i * (x / 2 ^ i) := by rw [Nat.pow_succ, Nat.mul_assoc, ← hq]
    obtain ⟨j, hj⟩ : ∃ j, 32 = i + 1 + j := ⟨31 - i, by omega⟩
    have hle : x / 2 ^ i / 2 < 2 ^ j := by
      rw [Nat.div_div_eq_div_mul, ← Nat.pow_succ, Nat.div_lt_iff_lt_mul (Nat.two_pow_pos _), ← Nat.pow_add, Nat.add_comm, ← hj]
      exact h2
    have hm : 2 ^ (i + 1) * (x / 2 ^ i / 2 + 1) ≤ 2 ^ (i + 1) * 2 ^ j := Nat.mul_le_mul_left _ hle
    rw [← Nat.pow_add, ← hj, Nat.mul_add, hk, Nat.mul_one, Nat.pow_succ] at hm
    omega
  have h3 := congrArg BitVec.toNat h1
  rw [BitVec.toNat_add, BitVec.toNat_or, BitVec.toNat_ofNat, BitVec.toNat_ofNat, Nat.mod_eq_of_lt (show x < 2 ^ 32 by omega), Nat.mod_eq_of_lt (show 2 ^ i < 2 ^ 32 by omega), Nat.mod_eq_of_lt (by omega)] at h3
  exact h3.symm
end Go.Mum
