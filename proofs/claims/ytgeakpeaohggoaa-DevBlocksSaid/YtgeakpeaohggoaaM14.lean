/- Contracts of the functions that the law reaches, walked, and the plain laws on them (several texts in one). -/
import Derived.Outline
import Derived.Test.YtgeakpeaohggoaaM13
import Derived.Test.YtgeakpeaohggoaaM09

/- What the statements on memories share: made, near. -/
namespace Go.Proofs.Ytgeakpeaohggoaa
open Go.RowKit Go.Mum

/-- A memory and the document's, with the same bytes. -/
structure Both (w : World) (r fb g q n : Nat) (L : List Int) : Prop where
  ram : RamAt w r fb g (List.range n) L
  ref : RefAt w (some ⟨q, 0, none⟩) L
  len : L.length = 64 * n
  qs : q ≠ r ∧ q ≠ fb ∧ q ≠ g
  n1 : 1 ≤ n ∧ n ≤ 16
  qd : w.heap[q]? = some (.cells (u8s L).toArray 5 (0, 0))

theorem Both.keep {l : List Nat} {w x : World} {r fb g q n : Nat} {L : List Int} (h : Both w r fb g q n L) (hk : Keep l w x) (h1 : r ∉ l) (h2 : fb ∉ l) (h3 : g ∉ l) (h4 : q ∉ l) : Both x r fb g q n L :=
  ⟨h.ram.keep hk h1 h2 h3, h.ref.keep hk (by simpa using h4), h.len, h.qs, h.n1, hk.heap h.qd h4⟩

theorem Both.keep0 {w x : World} {r fb g q n : Nat} {L : List Int} (h : Both w r fb g q n L) (hk : Keep [] w x) : Both x r fb g q n L := h.keep hk (by simp) (by simp) (by simp) (by simp)

theorem Both.lt {w : World} {r fb g q n : Nat} {L : List Int} (h : Both w r fb g q n L) : r < w.heap.size ∧ fb < w.heap.size ∧ g < w.heap.size ∧ q < w.heap.size :=
  ⟨h.ram.lt.1, h.ram.lt.2.1, h.ram.lt.2.2, lt_of_heap h.qd⟩

/-- Only the two blocks of bytes were turned; or the same and new ones. -/
theorem Both.set {w x : World} {r fb g q n : Nat} {L L' : List Int} (h : Both w r fb g q n L) (hl : L'.length = L.length) (hr : RamAt x r fb g (List.range n) L') (hq : x.heap[q]? = some (.cells (u8s L').toArray 5 (0, 0))) : Both x r fb g q n L' :=
  ⟨hr, ⟨.inr ⟨q, rfl, hq⟩, hr.bytes, by rw [hl]; exact h.ref.2.2⟩, by rw [hl]; exact h.len, h.qs, h.n1, hq⟩

/-- The address that a statement asks for. -/
def near (a : Nat) : Nat := if a % 3 = 0 then a else a % 400

theorem near_lt {a : Nat} (h : a < 4294967296) : near a < 4294967296 := by unfold near; split <;> omega

/-- What made leaves. -/
def MadePost (w : World) (e : Ending) (w' : World) : Prop :=
  ∃ r fb g q n, n ≤ 5 ∧ w.heap.size ≤ r ∧ w.heap.size ≤ fb ∧ w.heap.size ≤ g ∧ w.heap.size ≤ q ∧ e = .returned (.tuple #[.pointer (some ⟨r, 0, none⟩), .agg #[.slice (some ⟨q, 0, none⟩) (64 * n) (64 * n)]]) ∧
    Both w' r fb g q n (List.replicate (64 * n) 0) ∧ Keep [] w w'

end Go.Proofs.Ytgeakpeaohggoaa

/- What the statements on memories share: the pair, call by call. -/
namespace Go.Proofs.Ytgeakpeaohggoaa
open Go.RowKit Go.Mum

theorem getD_splice_in {L M : List Int} {p j : Nat} (hj : j < M.length) (h : p + M.length ≤ L.length) : (splice L p M).getD (p + j) 0 = M.getD j 0 := by
  unfold splice
  simp only [List.getD]
  rw [List.getElem?_append_right (by rw [List.length_take]; omega), List.length_take, Nat.min_eq_left (by omega), Nat.add_sub_cancel_left, List.getElem?_append_left hj]

theorem getD_splice_out {L M : List Int} {p j : Nat} (hj : j < p ∨ p + M.length ≤ j) (h : p + M.length ≤ L.length) : (splice L p M).getD j 0 = L.getD j 0 := by
  unfold splice
  simp only [List.getD]
  rcases hj with hj | hj
  · rw [List.getElem?_append_left (by rw [List.length_take]; omega), List.getElem?_take_of_lt hj]
  · rw [List.getElem?_append_right (by rw [List.length_take]; omega), List.length_take, Nat.min_eq_left (by omega), List.getElem?_append_right (by omega), List.getElem?_drop]
    congr 2
    omega

theorem word4_splice {L : List Int} {p z : Nat} (h : p + 4 ≤ L.length) : word4 (splice L p (le4 z)) p = (z : Int) := by
  have e : ∀ j, j < 4 → (splice L p (le4 z)).getD (p + j) 0 = (le4 z).getD j 0 := fun j hj => getD_splice_in (by simpa [le4] using hj) (by simpa [le4] using h)
  have e0 := e 0 (by omega)
  rw [Nat.add_zero] at e0
  unfold word4
  rw [e0, e 1 (by omega), e 2 (by omega), e 3 (by omega)]
  simp [le4]
  omega

/-- In a memory that New made bytes lie side by side. -/
theorem putAt_range (n : Nat) : ∀ (M L : List Int) (a : Nat), a + M.length ≤ 64 * n → L.length = 64 * n → putAt (List.range n) L a M = splice L a M
  | [], L, a, _, _ => by rw [splice_nil]; rfl
  | x :: M, L, a, h, hl => by
    rw [List.length_cons] at h
    rw [putAt, pl_range (by omega), putAt_range n M _ (a + 1) (by omega) (by rw [List.length_set]; exact hl), splice_cons L a x M (by omega)]

end Go.Proofs.Ytgeakpeaohggoaa

/- Bytes laid of which there may be none. -/
namespace Go.Proofs.Ytgeakpeaohggoaa
open Go.RowKit Go.Mum

set_option maxRecDepth 100000 in
set_option maxHeartbeats 1000000 in
theorem rlay_empty {w : World} {r fb g : Nat} {ks : List Nat} {L : List Int} (h : RamAt w r fb g ks L) (a : Nat) (hyes : a ≤ 64 * ks.length) {src : Option Addr} {c : Nat} :
    Calls Try.prog 69 #[.int .u32 a, .slice src 0 c, .int .i64 1, .func (.func 70) #[.pointer (some ⟨r, 0, none⟩)] #[], .func (.func 71) #[.pointer (some ⟨r, 0, none⟩)] #[]] w fun e w' => e = .returned (.bool true) ∧ w = w' := by
  have hs := h.size
  have C := rwithin_any h.sz a 0 1 (by omega) (by omega) (.inl rfl)
  rw [decide_eq_true (by omega)] at C
  have C := Lib.hid C
  clear h
  go_enter Try.func69, Try.ntmps69
  go_wp2_with fail
  refine C.out.mono ?_
  rintro e w' ⟨rfl, rfl⟩
  go_wp2_with fail
  refine wp_loop_rounds 1 ?_
  rw [rounds_succ]
  go_wp2_with fail
  go_ret
  exact ⟨rfl, rfl⟩

set_option maxHeartbeats 1000000 in
theorem rfill_all {w : World} {r fb g : Nat} {ks : List Nat} {L : List Int} (h : RamAt w r fb g ks L) (a : Nat) (ha : a < 4294967296) {src : Option Addr} {c : Nat} {M : List Int}
    (hM : Row w src c M) (hsrc : M = [] ∨ ∀ b, src = some b → b.block ≠ g) (hl : M.length ≤ 9223372036854775807) :
    Calls Try.prog 66 #[.pointer (some ⟨r, 0, none⟩), .int .u32 a, .slice src M.length c] w (LayPost r fb g ks L a M 1 w) := by
  rcases hsrc with h0 | hsrc
  · subst h0
    by_cases hyes : a ≤ 64 * ks.length
    · have C := Lib.hid (rlay_empty h a hyes (src := src) (c := c))
      have hmf : ∀ (fn : Fn) (first cap : Array Value) (w : World), (Instr.makeFunc fn first cap).run Try.prog w = .ok (.func fn first cap) w := fun _ _ _ _ => rfl
      have HF : Hid (LayPost r fb g ks L a [] 1 w (.returned (.bool true)) w) := Lib.hid ⟨by rw [layB_yes (by simp; omega)], by rw [if_pos (layB_yes (by simp; omega))]; exact h, Keep.refl _ _⟩
      clear h hM
      go_enter Try.func66, Try.ntmps66
      go_wp2_with fail
      refine C.out.mono ?_
      rintro e w' ⟨rfl, rfl⟩
      go_wp2_with fail
      go_ret
      exact HF.out
    · have C := Lib.hid (rlay_no h.sz a ha 1 (.inl rfl) (src := src) (c := c) 0 (by omega) (by omega))
      have hmf : ∀ (fn : Fn) (first cap : Array Value) (w : World), (Instr.makeFunc fn first cap).run Try.prog w = .ok (.func fn first cap) w := fun _ _ _ _ => rfl
      have HF : Hid (LayPost r fb g ks L a [] 1 w (.returned (.bool false)) w) := Lib.hid ⟨by rw [layB_no (by simp; omega)], by rw [if_neg (by rw [layB_no (by simp; omega)]; simp)]; exact h, Keep.refl _ _⟩
      clear h hM
      go_enter Try.func66, Try.ntmps66
      go_wp2_with fail
      refine C.out.mono ?_
      rintro e w' ⟨rfl, rfl⟩
      go_wp2_with fail
      go_ret
      exact HF.out
  · exact rfill_any h a ha hM hsrc hl
end Go.Proofs.Ytgeakpeaohggoaa

/- The pair, call by call: both lay alike. -/
namespace Go.Proofs.Ytgeakpeaohggoaa
open Go.RowKit Go.Mum

/-- The bytes behind a call that lays M at a, if it may. -/
def laid (n : Nat) (L : List Int) (a : Nat) (M : List Int) (al : Nat) : List Int := if layB n a M.length al = true then splice L a M else L

theorem laid_length {n a al : Nat} {L M : List Int} (hl : L.length = 64 * n) : (laid n L a M al).length = L.length := by
  unfold laid
  split
  · rename_i h
    have := of_decide_eq_true h
    rw [splice_len]
    omega
  · rfl

/-- What a memory's call that lays bytes leaves. -/
def RPost (r fb g n : Nat) (L : List Int) (a : Nat) (M : List Int) (al : Nat) (w : World) (e : Ending) (w' : World) : Prop :=
  e = .returned (.bool (layB n a M.length al)) ∧ RamAt w' r fb g (List.range n) (laid n L a M al) ∧ Keep [g] w w'

theorem rpost_of {r fb g n a al : Nat} {L M : List Int} {w w' : World} {e : Ending} (hl : L.length = 64 * n) (h : LayPost r fb g (List.range n) L a M al w e w') : RPost r fb g n L a M al w e w' := by
  obtain ⟨h1, h2, h3⟩ := h
  rw [List.length_range] at h1 h2
  refine ⟨h1, ?_, h3⟩
  unfold laid
  by_cases hb : layB n a M.length al = true
  · rw [if_pos hb] at h2 ⊢
    have := of_decide_eq_true hb
    rw [putAt_range n M L a this.2 hl] at h2
    exact h2
  · rw [if_neg hb] at h2 ⊢
    exact h2

section
variable {w : World} {r fb g q n : Nat} {L : List Int}

theorem bsetbyte_r (h : Both w r fb g q n L) (a : Nat) (ha : a < 4294967296) (z : Int) (hz : 0 ≤ z ∧ z < 256) :
    Calls Try.prog 50 #[.pointer (some ⟨r, 0, none⟩), .int .u32 a, .int .u8 z] w (RPost r fb g n L a [z] 1 w) :=
  (rsetbyte_any h.ram a ha z hz).mono fun _ _ => rpost_of h.len

theorem bfill_r (h : Both w r fb g q n L) (a : Nat) (ha : a < 4294967296) {src : Option Addr} {c : Nat} {M : List Int} (hM : Row w src c M) (hsrc : M = [] ∨ ∀ b, src = some b → b.block ≠ g) (hl : M.length ≤ 9223372036854775807) :
    Calls Try.prog 66 #[.pointer (some ⟨r, 0, none⟩), .int .u32 a, .slice src M.length c] w (RPost r fb g n L a M 1 w) :=
  (rfill_all h.ram a ha hM hsrc hl).mono fun _ _ => rpost_of h.len

/-- The document's memory alone: as much as a call needs of it. -/
structure RefN (w : World) (q n : Nat) (L : List Int) : Prop where
  ref : RefAt w (some ⟨q, 0, none⟩) L
  len : L.length = 64 * n

theorem Both.refN (h : Both w r fb g q n L) : RefN w q n L := ⟨h.ref, h.len⟩

/-- What the document's call leaves. -/
def DPost (q n : Nat) (L : List Int) (a : Nat) (M : List Int) (al : Nat) (w : World) (e : Ending) (w' : World) : Prop :=
  e = .returned (.bool (layB n a M.length al)) ∧ RefAt w' (some ⟨q, 0, none⟩) (laid n L a M al) ∧ Keep [q] w w'

theorem dpost_yes {a al : Nat} {M : List Int} {w' : World} {e : Ending} (hy : layB n a M.length al = true) (h : FPost (some ⟨q, 0, none⟩) (splice L a M) true w e w') : DPost q n L a M al w e w' := by
  obtain ⟨h1, h2, l, h3, h4⟩ := h
  refine ⟨by rw [hy]; exact h1, by unfold laid; rw [if_pos hy]; exact h2, h4.weaken fun k hk _ => ?_⟩
  obtain ⟨_, e⟩ := h3 k hk
  cases e
  simp

theorem dpost_no {a al : Nat} {M : List Int} {w' : World} {e : Ending} (hy : layB n a M.length al = false) (h : FPost (some ⟨q, 0, none⟩) L false w e w') : DPost q n L a M al w e w' := by
  obtain ⟨h1, h2, l, h3, h4⟩ := h
  refine ⟨by rw [hy]; exact h1, by unfold laid; rw [if_neg (by rw [hy]; simp)]; exact h2, h4.weaken fun k hk _ => ?_⟩
  obtain ⟨_, e⟩ := h3 k hk
  cases e
  simp

theorem splice_one (L : List Int) (a : Nat) (z : Int) (h : a < L.length) : splice L a [z] = L.set a z := by
  rw [← splice_cons L a z [] h, splice_nil]

theorem bsetbyte_d (h : RefN w q n L) (a : Nat) (ha : a < 4294967296) (z : Int) (hz : 0 ≤ z ∧ z < 256) :
    Calls Try.prog 51 #[.agg #[.slice (some ⟨q, 0, none⟩) (64 * n) (64 * n)], .int .u32 a, .int .u8 z] w (DPost q n L a [z] 1 w) := by
  have hl := h.len
  by_cases hy : a < 64 * n
  · have C := fsetbyte_yes h.ref a (by omega) z hz
    rw [hl, ← splice_one L a z (by omega)] at C
    exact C.mono fun _ _ => dpost_yes (layB_yes (by simp; omega))
  · have C := fsetbyte_no h.ref a (by omega) ha z
    rw [hl] at C
    exact C.mono fun _ _ => dpost_no (layB_no (by simp; omega))

end
end Go.Proofs.Ytgeakpeaohggoaa

/- Have both memories the same bytes? -/
namespace Go.Proofs.Ytgeakpeaohggoaa
open Go.RowKit Go.Mum

/-- How bytes read as a string. -/
def Str (x : World) (a : Option Addr) (k c : Nat) (M : List Int) : Prop := (convert 22 9 (.slice a k c)).run Try.prog x = .ok (.string (strOfNums M)) x
theorem str_of {x : World} {a : Option Addr} {k c : Nat} {M : List Int} (h : Row x a c M) (hk : k = M.length) : Str x a k c M := run_string (P := Try.prog) Try.underlying22 Try.underlying5 h k hk _ Try.underlying9

theorem frameOf_range {n k : Nat} (L : List Int) (hk : k < n) : frameOf (List.range n) L k = (L.drop (64 * k)).take 64 := by
  unfold frameOf
  simp [List.getD, List.getElem?_range hk]

/-- The answer is true, and nothing that was there has been turned. -/
def True1 (w : World) (e : Ending) (w' : World) : Prop := e = .returned (.bool true) ∧ Keep [] w w'

end Go.Proofs.Ytgeakpeaohggoaa

/- The pair, call by call: both read alike. -/
namespace Go.Proofs.Ytgeakpeaohggoaa
open Go.RowKit Go.Mum

/-- The word at an address, 0 where there is none. -/
def wordAt (n : Nat) (L : List Int) (a : Nat) : Int := if layB n a 4 4 = true then word4 L a else 0

section
variable {w : World} {r fb g q n : Nat} {L : List Int}

def RdPost (v : Value) (ok : Bool) (w : World) (e : Ending) (w' : World) : Prop := e = .returned (.tuple #[v, .bool ok]) ∧ Keep [] w w'

/-- The bytes of a frame, none where there is none. -/
def frameAt (n : Nat) (L : List Int) (k : Int) : List Int := if 0 ≤ k ∧ k < n then (L.drop (64 * k.toNat)).take 64 else []

theorem bframe_r (h : Both w r fb g q n L) (k : Int) (h1 : -9223372036854775808 ≤ k) (h2 : k ≤ 9223372036854775807) :
    Calls Try.prog 24 #[.pointer (some ⟨r, 0, none⟩), .int .i64 k] w (RowPost (frameAt n L k) w) := by
  unfold frameAt
  by_cases hy : 0 ≤ k ∧ k < n
  · rw [if_pos hy]
    obtain ⟨m, rfl⟩ : ∃ m : Nat, k = m := ⟨k.toNat, by omega⟩
    refine (rframe_yes h.ram m (by rw [List.length_range]; omega)).mono ?_
    intro e w' hp
    rw [frameOf_range L (by omega)] at hp
    rw [Int.toNat_natCast]
    exact rowPost_own hp
  · rw [if_neg hy]
    refine (rframe_no h.ram.sz k h1 h2 (by rw [List.length_range]; omega)).mono ?_
    rintro e w' ⟨rfl, rfl⟩
    exact rowPost_none

theorem bframe_d (h : RefN w q n L) (k : Int) (h1 : -9223372036854775808 ≤ k) (h2 : k ≤ 9223372036854775807) :
    Calls Try.prog 23 #[.agg #[.slice (some ⟨q, 0, none⟩) (64 * n) (64 * n)], .int .i64 k] w (RowPost (frameAt n L k) w) := by
  have hl := h.len
  unfold frameAt
  by_cases hy : 0 ≤ k ∧ k < n
  · rw [if_pos hy]
    obtain ⟨m, rfl⟩ : ∃ m : Nat, k = m := ⟨k.toNat, by omega⟩
    have C := fframe_yes h.ref m (by omega)
    rw [hl] at C
    rw [Int.toNat_natCast]
    exact C
  · rw [if_neg hy]
    have C := fframe_no h.ref k h1 h2 (by omega)
    rw [hl] at C
    exact C
end
end Go.Proofs.Ytgeakpeaohggoaa
