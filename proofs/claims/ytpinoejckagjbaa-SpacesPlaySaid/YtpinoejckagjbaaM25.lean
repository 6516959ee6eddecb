/- Contracts of the functions that the law reaches, walked, and the plain laws on them (several texts in one). -/
import Derived.Test.YtpinoejckagjbaaM18
import Derived.Test.YtpinoejckagjbaaM24

/- Several shadows' tables in one memory: the plain laws. -/
namespace Go.Proofs.Ytpinoejckagjbaa
open Go.RowKit Go.Mum
set_option linter.unusedVariables false
set_option linter.unusedSimpArgs false
set_option maxRecDepth 100000

theorem layUp_out : ∀ (us : List Nat) {L : List Int} {p q : Nat}, p + 4 * us.length ≤ L.length → (q + 4 ≤ p ∨ p + 4 * us.length ≤ q) → word4 (layUp L p us) q = word4 L q
  | [], L, p, q, _, _ => rfl
  | u :: us, L, p, q, h, hq => by
    simp only [List.length_cons] at h hq
    show word4 (layUp (splice L p (le4 u)) (p + 4) us) q = _
    have hs : (splice L p (le4 u)).length = L.length := length_splice' _ _ _ (by rw [le4_len]; omega)
    rw [layUp_out us (by rw [hs]; omega) (by omega), word_other (by rw [le4_len]; omega) (by rw [le4_len]; omega)]

theorem layUp_in : ∀ (us : List Nat) {L : List Int} {p j : Nat}, p + 4 * us.length ≤ L.length → j < us.length → word4 (layUp L p us) (p + 4 * j) = ((us.getD j 0 : Nat) : Int)
  | u :: us, L, p, 0, h, _ => by
    simp only [List.length_cons] at h
    show word4 (layUp (splice L p (le4 u)) (p + 4) us) (p + 4 * 0) = _
    have hs : (splice L p (le4 u)).length = L.length := length_splice' _ _ _ (by rw [le4_len]; omega)
    rw [layUp_out us (by rw [hs]; omega) (by omega), show p + 4 * 0 = p by omega, word4_of (by omega)]
    rfl
  | u :: us, L, p, j + 1, h, hj => by
    simp only [List.length_cons] at h hj
    show word4 (layUp (splice L p (le4 u)) (p + 4) us) (p + 4 * (j + 1)) = _
    have hs : (splice L p (le4 u)).length = L.length := length_splice' _ _ _ (by rw [le4_len]; omega)
    have := layUp_in us (L := splice L p (le4 u)) (p := p + 4) (j := j) (by rw [hs]; omega) (by omega)
    rw [show p + 4 * (j + 1) = p + 4 + 4 * j by omega, this]
    rfl

theorem layUp_bytes : ∀ (us : List Nat) {L : List Int} {p : Nat}, IsBytes L → (∀ e ∈ us, e < 4294967296) → IsBytes (layUp L p us)
  | [], L, p, h, _ => h
  | u :: us, L, p, h, hu => layUp_bytes us (splice_bytes h (le4_bytes (hu u (by simp)))) (fun e he => hu e (by simp [he]))

/-- The words of the upper halves. -/
def upW : List Nat := [7, 71, 0, 133]
def upL (b : Bool) : List Nat := if b then upW else []
def upE (b : Bool) (n : Nat) : Nat := if 16 ≤ n then (upL b).getD (n - 16) 0 else 0

theorem upL_len (b : Bool) : (upL b).length ≤ 4 := by cases b <;> decide
theorem upL_lt (b : Bool) : ∀ e ∈ upL b, e < 4294967296 := by cases b <;> decide
theorem upE_low {b : Bool} {n : Nat} (h : n < 16) : upE b n = 0 := if_neg (by omega)
theorem upE_le (b : Bool) (n : Nat) : upE b n ≤ 133 := by
  unfold upE upL upW
  split
  · cases b
    · simp
    · simp only [if_true]
      rcases (by omega : n - 16 = 0 ∨ n - 16 = 1 ∨ n - 16 = 2 ∨ n - 16 = 3 ∨ 4 ≤ n - 16) with h | h | h | h | h
      · rw [h]; decide
      · rw [h]; decide
      · rw [h]; decide
      · rw [h]; decide
      · rw [List.getD_eq_getElem?_getD, List.getElem?_eq_none (by simpa using h)]; decide
  · omega

def GoodM (e : Nat) : Prop := e = 0 ∨ ∃ f b, f < 60 ∧ b < 16 ∧ b % 2 = 1 ∧ e = 64 * f + b

theorem GoodM.lt {e : Nat} (h : GoodM e) : e < 4294967296 := by
  rcases h with rfl | ⟨f, b, h1, h2, _, rfl⟩ <;> omega

theorem entryOf_goodM {fr bb : Nat} (h : fr < 60) : GoodM (entryOf fr bb) := .inr ⟨fr, bb % 16 / 2 * 2 + 1, h, by omega, by omega, rfl⟩

/-- One of several is turned. -/
def setSh (T : Nat → Nat → Tab) (k : Nat) (t : Nat → Tab) : Nat → Nat → Tab := fun m => if m = k then t else T m
theorem setSh_same {T : Nat → Nat → Tab} {k : Nat} {t : Nat → Tab} : setSh T k t k = t := if_pos rfl
theorem setSh_ne {T : Nat → Nat → Tab} {k m : Nat} {t : Nat → Tab} (h : m ≠ k) : setSh T k t m = T m := if_neg h
def setUp (u : Nat → Bool) (k : Nat) (b : Bool) : Nat → Bool := fun m => if m = k then b else u m
theorem setUp_same {u : Nat → Bool} {k : Nat} {b : Bool} : setUp u k b k = b := if_pos rfl
theorem setUp_ne {u : Nat → Bool} {k m : Nat} {b : Bool} (h : m ≠ k) : setUp u k b m = u m := if_neg h

/-- How several shadows' tables stand, and the memory: directories at 20, 22 and so on, the pool from 40 on. -/
structure MInv (most ns : Nat) (T : Nat → Nat → Tab) (up : Nat → Bool) (L lent : List Int) : Prop where
  mst : most ≤ 9
  nsb : ns ≤ 8
  len : L.length = 3840
  byt : IsBytes L
  dirw : ∀ k, k < ns → ∀ n, n < 32 → word4 L (64 * (20 + 2 * k) + 4 * n) = if (T k n).th then ((64 * (T k n).fr + 7 : Nat) : Int) else ((upE (up k) n : Nat) : Int)
  tabw : ∀ k, k < ns → ∀ n, n < 32 → (T k n).th = true → ∀ j, j < 16 → word4 L (64 * (T k n).fr + 4 * j) = (((T k n).en j : Nat) : Int)
  frm : ∀ k, k < ns → ∀ n, n < 32 → (T k n).th = true → 40 ≤ (T k n).fr ∧ (T k n).fr < 40 + most
  inj : ∀ k k', k < ns → k' < ns → ∀ n m, n < 32 → m < 32 → (T k n).th = true → (T k' m).th = true → (T k n).fr = (T k' m).fr → k = k' ∧ n = m
  ent : ∀ k, k < ns → ∀ n, n < 32 → ∀ j, j < 16 → GoodM ((T k n).en j)
  off : ∀ k, k < ns → ∀ n, n < 32 → (T k n).th = false → ∀ j, (T k n).en j = 0
  upno : ∀ k, k < ns → up k = true → ∀ n, 16 ≤ n → n < 32 → (T k n).th = false
  low : ∀ a, a + 4 ≤ 1280 → word4 L a = 0
  lnt : ∀ z, z ∈ lent ↔ ∃ k n, k < ns ∧ n < 32 ∧ (T k n).th = true ∧ z = ((T k n).fr : Int)
  lnd : lent.Nodup

section
variable {most ns : Nat} {T : Nat → Nat → Tab} {up : Nat → Bool} {L lent : List Int}

theorem MInv.lay (h : MInv most ns T up L lent) {k n j e : Nat} (hk : k < ns) (hn : n < 32) (hj : j < 16) (ht : (T k n).th = true) (he : GoodM e) :
    MInv most ns (setSh T k (setTab (T k) n (setEn (T k n) j e))) up (splice L (64 * (T k n).fr + 4 * j) (le4 e)) lent := by
  have hf := h.frm k hk n hn ht
  have hm := h.mst
  have hns := h.nsb
  have hl := h.len
  have hel := he.lt
  have hT : ∀ k' m, (setSh T k (setTab (T k) n (setEn (T k n) j e)) k' m).th = (T k' m).th ∧ (setSh T k (setTab (T k) n (setEn (T k n) j e)) k' m).fr = (T k' m).fr := fun k' m => by
    by_cases h1 : k' = k
    · subst h1
      rw [setSh_same]
      by_cases h2 : m = n
      · subst h2; rw [setTab_same]; exact ⟨rfl, rfl⟩
      · rw [setTab_ne h2]; exact ⟨rfl, rfl⟩
    · rw [setSh_ne h1]; exact ⟨rfl, rfl⟩
  have hE : ∀ k' m i, (setSh T k (setTab (T k) n (setEn (T k n) j e)) k' m).en i = if k' = k ∧ m = n ∧ i = j then e else (T k' m).en i := fun k' m i => by
    by_cases h1 : k' = k
    · subst h1
      rw [setSh_same]
      by_cases h2 : m = n
      · subst h2
        rw [setTab_same]
        show (if i = j then e else (T k' m).en i) = _
        by_cases h3 : i = j
        · rw [if_pos h3, if_pos ⟨rfl, rfl, h3⟩]
        · rw [if_neg h3, if_neg (fun q => h3 q.2.2)]
      · rw [setTab_ne h2, if_neg (fun q => h2 q.2.1)]
    · rw [setSh_ne h1, if_neg (fun q => h1 q.1)]
  generalize setSh T k (setTab (T k) n (setEn (T k n) j e)) = T' at hT hE
  refine ⟨hm, hns, ?_, splice_bytes h.byt (le4_bytes hel), ?_, ?_, ?_, ?_, ?_, ?_, ?_, ?_, ?_, h.lnd⟩
  · rw [length_splice' _ _ _ (by rw [le4_len]; omega), hl]
  · intro k' hk' m hmm
    rw [(hT k' m).1, (hT k' m).2, word_other (by rw [le4_len]; omega) (by rw [le4_len]; omega)]
    exact h.dirw k' hk' m hmm
  · intro k' hk' m hmm hth i hi
    rw [(hT k' m).1] at hth
    rw [(hT k' m).2, hE k' m i]
    by_cases hmn : k' = k ∧ m = n
    · obtain ⟨rfl, rfl⟩ := hmn
      by_cases hij : i = j
      · subst hij
        rw [if_pos ⟨rfl, rfl, rfl⟩, word4_of (by omega)]
      · rw [if_neg (fun q => hij q.2.2), word_other (by rw [le4_len]; omega) (by rw [le4_len]; omega)]
        exact h.tabw k' hk' m hmm hth i hi
    · have hne : (T k' m).fr ≠ (T k n).fr := fun q => hmn (h.inj k' k hk' hk m n hmm hn hth ht q)
      rw [if_neg (fun q => hmn ⟨q.1, q.2.1⟩), word_other (by rw [le4_len]; omega) (by rw [le4_len]; omega)]
      exact h.tabw k' hk' m hmm hth i hi
  · intro k' hk' m hmm hth
    rw [(hT k' m).1] at hth
    rw [(hT k' m).2]
    exact h.frm k' hk' m hmm hth
  · intro k1 k2 h1 h2 a b ha hb hta htb hab
    rw [(hT k1 a).1] at hta
    rw [(hT k2 b).1] at htb
    rw [(hT k1 a).2, (hT k2 b).2] at hab
    exact h.inj k1 k2 h1 h2 a b ha hb hta htb hab
  · intro k' hk' m hmm i hi
    rw [hE k' m i]
    split
    · exact he
    · exact h.ent k' hk' m hmm i hi
  · intro k' hk' m hmm hth i
    rw [(hT k' m).1] at hth
    rw [hE k' m i, if_neg (fun q => by rw [q.1, q.2.1, ht] at hth; cases hth)]
    exact h.off k' hk' m hmm hth i
  · intro k' hk' hu m h16 hmm
    rw [(hT k' m).1]
    exact h.upno k' hk' hu m h16 hmm
  · intro a ha
    rw [word_other (by rw [le4_len]; omega) (by rw [le4_len]; omega)]
    exact h.low a ha
  · intro z
    rw [h.lnt]
    refine ⟨fun ⟨k', m, q1, q2, q3, q4⟩ => ⟨k', m, q1, q2, by rw [(hT k' m).1]; exact q3, by rw [(hT k' m).2]; exact q4⟩, fun ⟨k', m, q1, q2, q3, q4⟩ => ⟨k', m, q1, q2, by rw [(hT k' m).1] at q3; exact q3, by rw [(hT k' m).2] at q4; exact q4⟩⟩

theorem MInv.lend (h : MInv most ns T up L lent) {k n f : Nat} (hk : k < ns) (hn : n < 32) (ht : (T k n).th = false) (hu : ¬ (up k = true ∧ 16 ≤ n)) (hf : 40 ≤ f ∧ f < 40 + most) (hfree : (f : Int) ∉ lent) :
    MInv most ns (setSh T k (setTab (T k) n ⟨true, f, fun _ => 0⟩)) up (splice (splice L (64 * f) (List.replicate 64 (0 : Int))) (64 * (20 + 2 * k) + 4 * n) (le4 (64 * f + 7))) (lent ++ [(f : Int)]) := by
  have hm := h.mst
  have hns := h.nsb
  have hl := h.len
  have hl1 : (splice L (64 * f) (List.replicate 64 (0 : Int))).length = 3840 := by rw [length_splice' _ _ _ (by simp; omega), hl]
  have hfr : ∀ k' m, k' < ns → m < 32 → (T k' m).th = true → (T k' m).fr ≠ f := fun k' m h1 h2 h3 h4 => hfree ((h.lnt _).2 ⟨k', m, h1, h2, h3, by rw [h4]⟩)
  have hS : ∀ k' m, ¬ (k' = k ∧ m = n) → setSh T k (setTab (T k) n ⟨true, f, fun _ => 0⟩) k' m = T k' m := fun k' m hh => by
    by_cases h1 : k' = k
    · subst h1; rw [setSh_same, setTab_ne (fun q => hh ⟨rfl, q⟩)]
    · rw [setSh_ne h1]
  have hS0 : setSh T k (setTab (T k) n ⟨true, f, fun _ => 0⟩) k n = ⟨true, f, fun _ => 0⟩ := by rw [setSh_same, setTab_same]
  generalize setSh T k (setTab (T k) n ⟨true, f, fun _ => 0⟩) = T' at hS hS0
  refine ⟨hm, hns, ?_, splice_bytes (splice_bytes h.byt (by intro x hx; rw [List.eq_of_mem_replicate hx]; omega)) (le4_bytes (by omega)), ?_, ?_, ?_, ?_, ?_, ?_, ?_, ?_, ?_, ?_⟩
  · rw [length_splice' _ _ _ (by rw [le4_len]; omega), hl1]
  · intro k' hk' m hmm
    by_cases hc : k' = k ∧ m = n
    · obtain ⟨rfl, rfl⟩ := hc
      rw [hS0, word4_of (by omega)]
      rfl
    · rw [hS k' m hc, word_other (by rw [le4_len]; omega) (by rw [le4_len]; omega), word_other (by simp; omega) (by simp; omega)]
      exact h.dirw k' hk' m hmm
  · intro k' hk' m hmm hth i hi
    by_cases hc : k' = k ∧ m = n
    · obtain ⟨rfl, rfl⟩ := hc
      rw [hS0]
      show word4 _ (64 * f + 4 * i) = ((0 : Nat) : Int)
      rw [word_other (by rw [le4_len]; omega) (by rw [le4_len]; omega), word_zero (by omega) (by omega) (by omega)]
      rfl
    · rw [hS k' m hc] at hth ⊢
      have h1 := h.frm k' hk' m hmm hth
      have h2 := hfr k' m hk' hmm hth
      rw [word_other (by rw [le4_len]; omega) (by rw [le4_len]; omega), word_other (by simp; omega) (by simp; omega)]
      exact h.tabw k' hk' m hmm hth i hi
  · intro k' hk' m hmm hth
    by_cases hc : k' = k ∧ m = n
    · obtain ⟨rfl, rfl⟩ := hc; rw [hS0]; exact hf
    · rw [hS k' m hc] at hth ⊢; exact h.frm k' hk' m hmm hth
  · intro k1 k2 h1 h2 a b ha hb hta htb hab
    by_cases hca : k1 = k ∧ a = n
    · by_cases hcb : k2 = k ∧ b = n
      · exact ⟨by rw [hca.1, hcb.1], by rw [hca.2, hcb.2]⟩
      · obtain ⟨rfl, rfl⟩ := hca
        rw [hS0, hS k2 b hcb] at hab
        rw [hS k2 b hcb] at htb
        exact absurd hab.symm (hfr k2 b h2 hb htb)
    · by_cases hcb : k2 = k ∧ b = n
      · obtain ⟨rfl, rfl⟩ := hcb
        rw [hS0, hS k1 a hca] at hab
        rw [hS k1 a hca] at hta
        exact absurd hab (hfr k1 a h1 ha hta)
      · rw [hS k1 a hca] at hta hab
        rw [hS k2 b hcb] at htb hab
        exact h.inj k1 k2 h1 h2 a b ha hb hta htb hab
  · intro k' hk' m hmm i hi
    by_cases hc : k' = k ∧ m = n
    · obtain ⟨rfl, rfl⟩ := hc; rw [hS0]; exact .inl rfl
    · rw [hS k' m hc]; exact h.ent k' hk' m hmm i hi
  · intro k' hk' m hmm hth i
    by_cases hc : k' = k ∧ m = n
    · obtain ⟨rfl, rfl⟩ := hc; rw [hS0]
    · rw [hS k' m hc] at hth ⊢; exact h.off k' hk' m hmm hth i
  · intro k' hk' hup m h16 hmm
    by_cases hc : k' = k ∧ m = n
    · obtain ⟨rfl, rfl⟩ := hc; exact absurd ⟨hup, h16⟩ hu
    · rw [hS k' m hc]; exact h.upno k' hk' hup m h16 hmm
  · intro a ha
    rw [word_other (by rw [le4_len]; omega) (by rw [le4_len]; omega), word_other (by simp; omega) (by simp; omega)]
    exact h.low a ha
  · intro z
    rw [List.mem_append, List.mem_singleton, h.lnt]
    constructor
    · rintro (⟨k', m, q1, q2, q3, q4⟩ | rfl)
      · have hc : ¬ (k' = k ∧ m = n) := by rintro ⟨rfl, rfl⟩; rw [ht] at q3; cases q3
        exact ⟨k', m, q1, q2, by rw [hS k' m hc]; exact q3, by rw [hS k' m hc]; exact q4⟩
      · exact ⟨k, n, hk, hn, by rw [hS0], by rw [hS0]⟩
    · rintro ⟨k', m, q1, q2, q3, q4⟩
      by_cases hc : k' = k ∧ m = n
      · obtain ⟨rfl, rfl⟩ := hc; rw [hS0] at q4; exact .inr q4
      · rw [hS k' m hc] at q3 q4; exact .inl ⟨k', m, q1, q2, q3, q4⟩
  · rw [List.nodup_append]
    exact ⟨h.lnd, by simp, fun a ha b hb => by simp at hb; rintro rfl; rw [hb] at ha; exact hfree ha⟩

/-- One shadow's tables are cleared. -/
theorem MInv.clear (h : MInv most ns T up L lent) {k : Nat} (hk : k < ns) {lent' : List Int} (hl' : ∀ z, z ∈ lent' ↔ z ∈ lent ∧ ¬ ∃ m, m < 32 ∧ (T k m).th = true ∧ z = ((T k m).fr : Int)) (hnd : lent'.Nodup) :
    MInv most ns (setSh T k (fun _ => tab0)) up (layUp (splice L (64 * (20 + 2 * k)) (List.replicate 128 (0 : Int))) (64 * (20 + 2 * k) + 64) (upL (up k))) lent' := by
  have hm := h.mst
  have hns := h.nsb
  have hl := h.len
  have hl1 : (splice L (64 * (20 + 2 * k)) (List.replicate 128 (0 : Int))).length = 3840 := by rw [length_splice' _ _ _ (by simp; omega), hl]
  have hu4 := upL_len (up k)
  have hlu : 64 * (20 + 2 * k) + 64 + 4 * (upL (up k)).length ≤ (splice L (64 * (20 + 2 * k)) (List.replicate 128 (0 : Int))).length := by rw [hl1]; omega
  have hout : ∀ q, q + 4 ≤ 64 * (20 + 2 * k) ∨ 64 * (20 + 2 * k) + 128 ≤ q → word4 (layUp (splice L (64 * (20 + 2 * k)) (List.replicate 128 (0 : Int))) (64 * (20 + 2 * k) + 64) (upL (up k))) q = word4 L q := fun q hq => by
    rw [layUp_out _ hlu (by omega), word_other (by simp; omega) (by simp; omega)]
  refine ⟨hm, hns, ?_, layUp_bytes _ (splice_bytes h.byt (by intro x hx; rw [List.eq_of_mem_replicate hx]; omega)) (upL_lt _), ?_, ?_, ?_, ?_, ?_, ?_, ?_, ?_, ?_, hnd⟩
  · rw [layUp_len _ hlu, hl1]
  · intro k' hk' n hn
    by_cases hc : k' = k
    · subst hc
      rw [setSh_same]
      show _ = ((upE (up k') n : Nat) : Int)
      unfold upE
      by_cases h16 : 16 ≤ n ∧ n - 16 < (upL (up k')).length
      · have := layUp_in (upL (up k')) (j := n - 16) hlu h16.2
        rw [show 64 * (20 + 2 * k') + 64 + 4 * (n - 16) = 64 * (20 + 2 * k') + 4 * n by omega] at this
        rw [this, if_pos h16.1]
      · rw [layUp_out _ hlu (by omega), word_zero (by omega) (by omega) (by omega)]
        split
        · rw [List.getD_eq_getElem?_getD, List.getElem?_eq_none (by omega)]; rfl
        · rfl
    · rw [setSh_ne hc, hout _ (by omega)]
      exact h.dirw k' hk' n hn
  · intro k' hk' n hn hth j hj
    by_cases hc : k' = k
    · subst hc; rw [setSh_same] at hth; cases hth
    · rw [setSh_ne hc] at hth ⊢
      have := h.frm k' hk' n hn hth
      rw [hout _ (by omega)]
      exact h.tabw k' hk' n hn hth j hj
  · intro k' hk' n hn hth
    by_cases hc : k' = k
    · subst hc; rw [setSh_same] at hth; cases hth
    · rw [setSh_ne hc] at hth ⊢; exact h.frm k' hk' n hn hth
  · intro k1 k2 h1 h2 a b ha hb hta htb hab
    by_cases hca : k1 = k
    · subst hca; rw [setSh_same] at hta; cases hta
    · by_cases hcb : k2 = k
      · subst hcb; rw [setSh_same] at htb; cases htb
      · rw [setSh_ne hca] at hta hab
        rw [setSh_ne hcb] at htb hab
        exact h.inj k1 k2 h1 h2 a b ha hb hta htb hab
  · intro k' hk' n hn j hj
    by_cases hc : k' = k
    · subst hc; rw [setSh_same]; exact .inl rfl
    · rw [setSh_ne hc]; exact h.ent k' hk' n hn j hj
  · intro k' hk' n hn hth j
    by_cases hc : k' = k
    · subst hc; rw [setSh_same]; rfl
    · rw [setSh_ne hc] at hth ⊢; exact h.off k' hk' n hn hth j
  · intro k' hk' hup n h16 hn
    by_cases hc : k' = k
    · subst hc; rw [setSh_same]; rfl
    · rw [setSh_ne hc]; exact h.upno k' hk' hup n h16 hn
  · intro a ha
    rw [hout _ (by omega)]
    exact h.low a ha
  · intro z
    rw [hl', h.lnt]
    constructor
    · rintro ⟨⟨k', m, q1, q2, q3, q4⟩, q5⟩
      have hc : k' ≠ k := by rintro rfl; exact q5 ⟨m, q2, q3, q4⟩
      exact ⟨k', m, q1, q2, by rw [setSh_ne hc]; exact q3, by rw [setSh_ne hc]; exact q4⟩
    · rintro ⟨k', m, q1, q2, q3, q4⟩
      have hc : k' ≠ k := by rintro rfl; rw [setSh_same] at q3; cases q3
      rw [setSh_ne hc] at q3 q4
      refine ⟨⟨k', m, q1, q2, q3, q4⟩, ?_⟩
      rintro ⟨m', r1, r2, r3⟩
      exact hc (h.inj k' k q1 hk m m' q2 r1 q3 r2 (by omega)).1

/-- A new upper half, behind a clearing. -/
theorem MInv.upper (h : MInv most ns T up L lent) {k : Nat} (hk : k < ns) (ht : T k = fun _ => tab0) (b : Bool) :
    MInv most ns T (setUp up k b) (layUp L (64 * (20 + 2 * k) + 64) (upL b ++ List.replicate (16 - (upL b).length) 0)) lent := by
  have hm := h.mst
  have hns := h.nsb
  have hl := h.len
  have hu4 := upL_len b
  have hul : (upL b ++ List.replicate (16 - (upL b).length) 0).length = 16 := by simp; omega
  have hlu : 64 * (20 + 2 * k) + 64 + 4 * (upL b ++ List.replicate (16 - (upL b).length) 0).length ≤ L.length := by rw [hul, hl]; omega
  have hout : ∀ q, q + 4 ≤ 64 * (20 + 2 * k) + 64 ∨ 64 * (20 + 2 * k) + 128 ≤ q → word4 (layUp L (64 * (20 + 2 * k) + 64) (upL b ++ List.replicate (16 - (upL b).length) 0)) q = word4 L q := fun q hq => layUp_out _ hlu (by rw [hul]; omega)
  refine ⟨hm, hns, ?_, layUp_bytes _ h.byt ?_, ?_, ?_, h.frm, h.inj, h.ent, h.off, ?_, ?_, h.lnt, h.lnd⟩
  · rw [layUp_len _ hlu, hl]
  · intro e he
    rw [List.mem_append] at he
    rcases he with he | he
    · exact upL_lt b e he
    · have := List.eq_of_mem_replicate he; omega
  · intro k' hk' n hn
    by_cases hc : k' = k
    · subst hc
      rw [ht, setUp_same]
      show _ = ((upE b n : Nat) : Int)
      unfold upE
      by_cases h16 : 16 ≤ n
      · have := layUp_in (upL b ++ List.replicate (16 - (upL b).length) 0) (L := L) (p := 64 * (20 + 2 * k') + 64) (j := n - 16) hlu (by omega)
        rw [show 64 * (20 + 2 * k') + 64 + 4 * (n - 16) = 64 * (20 + 2 * k') + 4 * n by omega] at this
        rw [this, if_pos h16]
        congr 1
        rw [List.getD_eq_getElem?_getD, List.getD_eq_getElem?_getD]
        by_cases hlt : n - 16 < (upL b).length
        · rw [List.getElem?_append_left hlt]
        · rw [List.getElem?_append_right (by omega), List.getElem?_replicate, if_pos (by omega), List.getElem?_eq_none (by omega)]
          rfl
      · rw [hout _ (by omega), h.dirw k' hk' n hn, ht, if_neg h16]
        show ((upE (up k') n : Nat) : Int) = _
        rw [upE_low (by omega)]
    · rw [setUp_ne hc, hout _ (by omega)]
      exact h.dirw k' hk' n hn
  · intro k' hk' n hn hth j hj
    have := h.frm k' hk' n hn hth
    rw [hout _ (by omega)]
    exact h.tabw k' hk' n hn hth j hj
  · intro k' hk' hup n h16 hn
    by_cases hc : k' = k
    · subst hc; rw [ht]; rfl
    · rw [setUp_ne hc] at hup; exact h.upno k' hk' hup n h16 hn
  · intro a ha
    rw [hout _ (by omega)]
    exact h.low a ha
end
end Go.Proofs.Ytpinoejckagjbaa
