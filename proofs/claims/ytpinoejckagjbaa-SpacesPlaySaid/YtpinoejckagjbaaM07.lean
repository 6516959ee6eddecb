/- Contracts of the functions that the law reaches, walked, and the plain laws on them (several texts in one). -/
import Derived.Test.YtpinoejckagjbaaRows
import Derived.ProofKit
import Derived.OpenShut
import Derived.ChangeArms
import Derived.DataReads
import Derived.Test.YtpinoejckagjbaaM01
import Derived.Test.YtpinoejckagjbaaM06
import Derived.Test.YtpinoejckagjbaaM04

/- What an argument that can be read as data looks like in memory, by its type; no slice is longer than B. -/
namespace Go.Proofs.Ytpinoejckagjbaa
open Go.RowKit Go.Mum Go.ChangeShapes Go.WideShapes

/-- The cells 'cs' are a value of the type t, and what it leads to is too; no slice is longer than B. -/
def Fits (P : Program) (w : World) (B : Nat) : Nat → TypeId → List Value → Prop
  | 0, _, _ => False
  | n + 1, t, cs => match P.underlying t with
    | some .bool => ∃ b, cs = [.bool b]
    | some (.int k) => ∃ z, cs = [.int k z] ∧ (Lit.int k z).wf = true
    | some .string => ∃ s : ByteArray, cs = [.string s] ∧ s.size ≤ maxLen
    | some (.struct fs) => cs.length = P.cellsOf t ∧ ∀ f ∈ fs.toList, Fits P w B n f.type ((cs.drop f.offset).take (P.cellsOf f.type))
    | some (.array len e) => cs.length = P.cellsOf t ∧ ∀ i, i < len → Fits P w B n e ((cs.drop (i * P.cellsOf e)).take (P.cellsOf e))
    | some (.slice e) => cs = [.slice none 0 0] ∨ ∃ a len cap, cs = [.slice (some a) len cap] ∧ len ≤ cap ∧ cap ≤ maxLen ∧ len ≤ B ∧
        ∀ i, i < len → ∃ ds, w.cells? 0 (a.add (i * P.cellsOf e)) (P.cellsOf e) = some ds ∧ Fits P w B n e ds
    | _ => True

theorem bulkAll_of_mem {H : Type} : ∀ {l : List (DataW H)} {d : DataW H}, d ∈ l → Rows.uptoBulk d ≤ Rows.uptoBulkAll l
  | x :: r, d, h => by
    unfold Rows.uptoBulkAll
    rcases List.mem_cons.1 h with rfl | h
    · omega
    · have := bulkAll_of_mem h; omega

theorem bulk_pos {H : Type} (d : DataW H) : 1 ≤ Rows.uptoBulk d := by
  unfold Rows.uptoBulk
  split <;> omega

theorem bulkAll_length {H : Type} : ∀ l : List (DataW H), l.length ≤ Rows.uptoBulkAll l
  | [] => Nat.zero_le _
  | x :: r => by
    unfold Rows.uptoBulkAll
    have h1 := bulk_pos x
    have h2 := bulkAll_length r
    simp only [List.length_cons]
    omega

section
variable {H : Type} {enc : TypeId × Value → H} {P : Program} {w : World} {spare : Nat → Bool} {held : Bool} {B : Nat}

theorem fits_of_trod : ∀ (fuel : Nat) (t : TypeId) (cs : List Value) (x : DataW H × List MemPlace), DataW.trod enc P w 0 spare held fuel t cs = some x →
    (maxLen ≤ B ∨ Rows.uptoBulk x.1 ≤ B) → Fits P w B fuel t cs
  | 0, _, _, _, h, _ => by simp [DataW.trod] at h
  | n + 1, t, cs, x, h, hb => by
    unfold Fits
    split
    · rename_i hu
      rw [DataW.trod_step] at h
      unfold DataW.trodStep at h
      rw [hu] at h
      split at h <;> simp_all
    · rename_i k hu
      rw [DataW.trod_step] at h
      unfold DataW.trodStep at h
      rw [hu] at h
      split at h <;> simp_all
    · rename_i hu
      rw [DataW.trod_step] at h
      unfold DataW.trodStep at h
      rw [hu] at h
      split at h <;> simp_all
    · rename_i fs hu
      obtain ⟨xs, m, hm, rfl, hl, hlen, hf⟩ := DataW.trod_struct hu h
      obtain rfl : n = m := by omega
      refine ⟨hl, fun f hfm => ?_⟩
      obtain ⟨i, hi⟩ := List.getElem?_of_mem hfm
      have hi' : fs[i]? = some f := by simpa using hi
      have hil : i < xs.length := by rw [hlen]; exact (Array.getElem?_eq_some_iff.1 hi').1
      have := hf i f hi'
      rw [List.getElem?_eq_getElem hil] at this
      refine fits_of_trod n _ _ _ this ?_
      rcases hb with hb | hb
      · exact .inl hb
      · right
        unfold Rows.uptoBulk at hb
        have := bulkAll_of_mem (List.mem_map.2 ⟨xs[i], List.getElem_mem hil, rfl⟩ : xs[i].1 ∈ xs.map (·.1))
        omega
    · rename_i len e hu
      obtain ⟨xs, m, hm, rfl, hl, hlen, hf⟩ := DataW.trod_array hu h
      obtain rfl : n = m := by omega
      refine ⟨hl, fun i hi => ?_⟩
      have hil : i < xs.length := by omega
      have := hf i hi
      rw [List.getElem?_eq_getElem hil] at this
      refine fits_of_trod n _ _ _ this ?_
      rcases hb with hb | hb
      · exact .inl hb
      · right
        unfold Rows.uptoBulk at hb
        have := bulkAll_of_mem (List.mem_map.2 ⟨xs[i], List.getElem_mem hil, rfl⟩ : xs[i].1 ∈ xs.map (·.1))
        omega
    · rename_i e hu
      rcases DataW.trod_slice hu h with ⟨rfl, _⟩ | ⟨a, len, cap, elems, rest, m, hm, rfl, rfl, _, hl, hmx, hlen, hel, _⟩
      · exact .inl rfl
      · obtain rfl : n = m := by omega
        refine .inr ⟨a, len, cap, rfl, hl, hmx, ?_, fun i hi => ?_⟩
        · rcases hb with hb | hb
          · omega
          · unfold Rows.uptoBulk at hb
            have := bulkAll_length (elems.map (·.1))
            simp only [List.length_map] at this
            omega
        · have hil : i < elems.length := by omega
          have := hel i hi
          rw [List.getElem?_eq_getElem hil] at this
          obtain ⟨ds, h1, h2⟩ := Option.bind_eq_some_iff.1 this
          refine ⟨ds, h1, fits_of_trod n _ _ _ h2 ?_⟩
          rcases hb with hb | hb
          · exact .inl hb
          · right
            unfold Rows.uptoBulk at hb
            have := bulkAll_of_mem (List.mem_map.2 ⟨elems[i], List.getElem_mem hil, rfl⟩ : elems[i].1 ∈ elems.map (·.1))
            omega
    · trivial

/-- An argument as it comes in. -/
theorem fits_of_arg {t : TypeId} {v : Value} {d : DataW H} {p : List MemPlace} (h : DataW.Trod enc P w 0 spare held t v d p) (hb : maxLen ≤ B ∨ Rows.uptoBulk d ≤ B) : ∃ n, Fits P w B n t v.cells.toList := by
  obtain ⟨fuel, hf⟩ := h
  exact ⟨fuel, fits_of_trod fuel t _ _ hf hb⟩
end

theorem okWide_array {P : Program} {w : World} {r : Reach} {base : Nat} {t : TypeId} {v : Value} {n : Nat} {e : TypeId} (ht : P.underlying t = some (.array n e)) (h : Value.okWide P w r base t v) : ∃ cs, v = .agg cs := by
  simp only [Value.okWide, ht] at h
  obtain ⟨cs, h1, _⟩ := h
  exact ⟨cs, h1⟩

section
variable {P : Program} {w : World} {B n : Nat} {t e : TypeId} {cs : List Value}

theorem Fits.int {k : IntKind} (h : Fits P w B n t cs) (ht : P.underlying t = some (.int k)) : ∃ z, cs = [.int k z] ∧ (Lit.int k z).wf = true := by
  cases n with
  | zero => exact h.elim
  | succ n => unfold Fits at h; rw [ht] at h; exact h

theorem Fits.bool (h : Fits P w B n t cs) (ht : P.underlying t = some .bool) : ∃ b, cs = [.bool b] := by
  cases n with
  | zero => exact h.elim
  | succ n => unfold Fits at h; rw [ht] at h; exact h

theorem Fits.struct {fs : Array Field} (h : Fits P w B n t cs) (ht : P.underlying t = some (.struct fs)) : ∃ m, cs.length = P.cellsOf t ∧ ∀ f ∈ fs.toList, Fits P w B m f.type ((cs.drop f.offset).take (P.cellsOf f.type)) := by
  cases n with
  | zero => exact h.elim
  | succ n => unfold Fits at h; rw [ht] at h; exact ⟨n, h⟩

theorem Fits.array {len : Nat} (h : Fits P w B n t cs) (ht : P.underlying t = some (.array len e)) : ∃ m, cs.length = P.cellsOf t ∧ ∀ i, i < len → Fits P w B m e ((cs.drop (i * P.cellsOf e)).take (P.cellsOf e)) := by
  cases n with
  | zero => exact h.elim
  | succ n => unfold Fits at h; rw [ht] at h; exact ⟨n, h⟩

theorem Fits.slice {a : Option Addr} {len cap : Nat} (h : Fits P w B n t [.slice a len cap]) (ht : P.underlying t = some (.slice e)) :
    (a = none ∧ len = 0 ∧ cap = 0) ∨ ∃ b m, a = some b ∧ len ≤ cap ∧ cap ≤ maxLen ∧ len ≤ B ∧ ∀ i, i < len → ∃ ds, w.cells? 0 (b.add (i * P.cellsOf e)) (P.cellsOf e) = some ds ∧ Fits P w B m e ds := by
  cases n with
  | zero => exact h.elim
  | succ n =>
    unfold Fits at h
    rw [ht] at h
    rcases h with h | ⟨b, l, c, h, h1, h2, h3, h4⟩
    · simp at h; exact .inl h
    · simp at h
      obtain ⟨rfl, rfl, rfl⟩ := h
      exact .inr ⟨b, n, rfl, h1, h2, h3, h4⟩
end

/-- The elements of a slice that came in, cell by cell. -/
theorem Fits.rows {P : Program} {w : World} {B n : Nat} {t e : TypeId} {a : Option Addr} {len cap : Nat} (h : Fits P w B n t [.slice a len cap]) (ht : P.underlying t = some (.slice e)) (c : Nat) (hc : P.cellsOf e = c) (h0 : 0 < c) :
    len = 0 ∨ ∃ b off m, a = some ⟨b, off, none⟩ ∧ 0 < len ∧ len ≤ cap ∧ cap ≤ maxLen ∧ len ≤ B ∧ b < w.heap.size ∧
      ∀ i, i < len → ∃ ds : List Value, ds.length = c ∧ (∀ j, j < c → w.cell? ⟨b, off + i * c + j, none⟩ = ds[j]?) ∧ Fits P w B m e ds := by
  rcases h.slice ht with ⟨_, h1, _⟩ | ⟨a, m, rfl, h1, h2, h3, h4⟩
  · exact .inl h1
  · by_cases hl : len = 0
    · exact .inl hl
    · right
      rw [hc] at h4
      have key : a.spot = none ∧ a.block < w.heap.size := by
        obtain ⟨ds, hd, _⟩ := h4 0 (by omega)
        obtain ⟨_, hlen, hcell⟩ := World.cells?_some hd
        have h00 := hcell 0 (by omega)
        rw [List.getElem?_eq_getElem (by omega)] at h00
        simp only [Nat.zero_mul, Addr.add, if_true] at h00
        refine ⟨?_, World.block_lt_of_cell? w a h00⟩
        unfold World.cell? at h00
        cases hs : a.spot with
        | none => rfl
        | some q =>
          split at h00
          · simp [hs] at h00
          · simp at h00
      obtain ⟨b, off, sp⟩ := a
      obtain ⟨hsp, hlt⟩ := key
      simp only at hsp hlt
      subst hsp
      refine ⟨b, off, m, rfl, by omega, h1, h2, h3, hlt, fun i hi => ?_⟩
      obtain ⟨ds, hd, hf⟩ := h4 i hi
      obtain ⟨_, hlen, hcell⟩ := World.cells?_some hd
      refine ⟨ds, hlen, fun j hj => ?_, hf⟩
      have := hcell j hj
      rw [Addr.add_lit, Addr.add_lit] at this
      exact this

theorem Fits.ints {P : Program} {w : World} {B n : Nat} {t e : TypeId} {k : IntKind} {a : Option Addr} {len cap : Nat} (h : Fits P w B n t [.slice a len cap]) (ht : P.underlying t = some (.slice e)) (he : P.underlying e = some (.int k)) (hc : P.cellsOf e = 1) :
    len = 0 ∨ ∃ b off, a = some ⟨b, off, none⟩ ∧ 0 < len ∧ len ≤ cap ∧ cap ≤ maxLen ∧ len ≤ B ∧ b < w.heap.size ∧ ∃ z : Nat → Int, ∀ i, i < len → w.cell? ⟨b, off + i, none⟩ = some (.int k (z i)) ∧ (Lit.int k (z i)).wf = true := by
  rcases h.rows ht 1 hc (by omega) with h0 | ⟨b, off, m, rfl, h0, h1, h2, h3, h4, h5⟩
  · exact .inl h0
  · right
    have each : ∀ i, ∃ z, i < len → w.cell? ⟨b, off + i, none⟩ = some (.int k z) ∧ (Lit.int k z).wf = true := by
      intro i
      by_cases hi : i < len
      · obtain ⟨ds, hd, hcell, hf⟩ := h5 i hi
        obtain ⟨z, rfl, hz⟩ := hf.int he
        have := hcell 0 (by omega)
        simp only [Nat.mul_one, Nat.add_zero, List.getElem?_cons_zero] at this
        exact ⟨z, fun _ => ⟨this, hz⟩⟩
      · exact ⟨0, fun h => absurd h hi⟩
    exact ⟨b, off, rfl, h0, h1, h2, h3, h4, fun i => (each i).choose, fun i hi => (each i).choose_spec hi⟩

theorem wf_i64 {z : Int} (h : (Lit.int .i64 z).wf = true) : -9223372036854775808 ≤ z ∧ z ≤ 9223372036854775807 := by simp only [Lit.wf, IntKind.min, IntKind.max, IntKind.signed, IntKind.bits, Bool.and_eq_true, decide_eq_true_eq] at h; simp at h; exact h
theorem wf_u32 {z : Int} (h : (Lit.int .u32 z).wf = true) : 0 ≤ z ∧ z ≤ 4294967295 := by simp only [Lit.wf, IntKind.min, IntKind.max, IntKind.signed, IntKind.bits, Bool.and_eq_true] at h; simp at h; exact h
theorem wf_u8 {z : Int} (h : (Lit.int .u8 z).wf = true) : 0 ≤ z ∧ z ≤ 255 := by simp only [Lit.wf, IntKind.min, IntKind.max, IntKind.signed, IntKind.bits, Bool.and_eq_true] at h; simp at h; exact h
theorem wf_u64 {z : Int} (h : (Lit.int .u64 z).wf = true) : 0 ≤ z ∧ z ≤ 18446744073709551615 := by simp only [Lit.wf, IntKind.min, IntKind.max, IntKind.signed, IntKind.bits, Bool.and_eq_true] at h; simp at h; exact h

end Go.Proofs.Ytpinoejckagjbaa

/- Arguments as they come in: bytes, pairs of numbers. -/
namespace Go.Proofs.Ytpinoejckagjbaa
open Go.RowKit Go.Mum
set_option maxRecDepth 100000

/-- A slice of bytes that came in, as a list. -/
theorem row_of_fits {w : World} {B n : Nat} {a : Option Addr} {len cap : Nat} (h : Fits Try.prog w B n 48 [.slice a len cap]) : ∃ L : List Int, len = L.length ∧ Row w a cap L ∧ (len ≤ B ∨ len = 0) := by
  rcases h.slice Try.underlying48 with ⟨rfl, rfl, rfl⟩ | ⟨b, m, rfl, h1, h2, h3, h4⟩
  · exact ⟨[], rfl, Row.nil w, .inr rfl⟩
  · rcases h.ints Try.underlying48 Try.underlying5 (by kernel_rfl) with rfl | ⟨b', off, e, h0, h1', h2', h3', h4', z, hz⟩
    · exact ⟨[], rfl, ⟨(by intro x hx; cases hx), ⟨h1, h2⟩, .inr (.inl ⟨rfl, _, rfl⟩)⟩, .inr rfl⟩
    · cases e
      refine ⟨(List.range len).map z, by simp, ⟨?_, ⟨by simp; exact h1, h2⟩, .inr (.inr ⟨b', off, rfl, ?_⟩)⟩, .inl h3⟩
      · intro x hx
        obtain ⟨i, hi, rfl⟩ := List.mem_map.1 hx
        have := wf_u8 (hz i (List.mem_range.1 hi)).2
        omega
      · intro i hi
        simp at hi
        rw [(hz i hi).1]
        simp [List.getD, hi]

theorem row_old {w : World} {a : Option Addr} {c : Nat} {L : List Int} (h : Row w a c L) {g : Nat} (hg : w.heap.size ≤ g) : L = [] ∨ ∀ b, a = some b → b.block ≠ g := by
  rcases h.at' with ⟨_, h, _⟩ | ⟨h, _⟩ | ⟨b, off, rfl, hc⟩
  · exact .inl h
  · exact .inl h
  · by_cases h0 : L = []
    · exact .inl h0
    · right
      have := World.block_lt_of_cell? w _ (hc 0 (List.length_pos_iff.2 h0))
      simp only [Option.some.injEq, forall_eq']
      simp at this
      omega

/-- The pair of addresses. -/
theorem two_of_fits {w : World} {B n : Nat} {c : Array Value} (h : Fits Try.prog w B n 115 c.toList) : ∃ z0 z1 : Nat, c = #[.int .u32 z0, .int .u32 z1] ∧ z0 < 4294967296 ∧ z1 < 4294967296 := by
  obtain ⟨m, hl, hf⟩ := h.array Try.underlying115
  have hlen : c.toList.length = 2 := hl.trans (by kernel_rfl)
  obtain ⟨l⟩ := c
  match l, hlen with
  | [d0, d1], _ =>
    have q1 : Try.prog.cellsOf 22 = 1 := by kernel_rfl
    have f0 := hf 0 (by omega)
    have f1 := hf 1 (by omega)
    simp only [q1] at f0 f1
    obtain ⟨z0, e0, g0⟩ := f0.int Try.underlying22
    obtain ⟨z1, e1, g1⟩ := f1.int Try.underlying22
    simp at e0 e1
    subst e0 e1
    have h0 := wf_u32 g0
    have h1 := wf_u32 g1
    exact ⟨z0.toNat, z1.toNat, by rw [Int.toNat_of_nonneg h0.1, Int.toNat_of_nonneg h1.1], by omega, by omega⟩

end Go.Proofs.Ytpinoejckagjbaa

/- A shadow's tables and the memory in which they lie: plain laws. -/
namespace Go.Proofs.Ytpinoejckagjbaa
open Go.RowKit Go.Mum
set_option linter.unusedVariables false
set_option linter.unusedSimpArgs false
set_option maxRecDepth 100000

theorem mem_of_ram {w : World} {r fb g n : Nat} {L : List Int} (h : RamAt w r fb g (List.range n) L) (hl : L.length = 64 * n) (hn : n ≤ 512) : Mem w (.pointer (some ⟨r, 0, none⟩)) n (rdOf n L) := by
  refine ⟨fun x hx a ha => ?_, fun x hx => ?_, fun a z hz => rdOf_lt h.bytes hl hz, hn⟩
  · obtain ⟨e1, e2⟩ := wordAt_rd h.bytes hl a
    rw [← e1, ← e2]
    have hr := h.keep0 hx
    unfold wordAt
    by_cases hy : a % 4 = 0 ∧ a < 64 * n
    · have hb : layB n a 4 4 = true := layB_yes (by omega)
      rw [if_pos hb, hb]
      refine (rword_yes hr a hy.1 (by rw [List.length_range]; exact hy.2)).mono ?_
      rintro e w' ⟨rfl, m, rfl⟩
      exact ⟨by rw [pl_range hy.2], (Keep.refl _ _).drewN _⟩
    · have hb : layB n a 4 4 = false := layB_no (by omega)
      rw [if_neg (by rw [hb]; simp), hb]
      refine (rword_no hr.sz a ha (by rw [List.length_range]; exact hy)).mono ?_
      rintro e w' ⟨rfl, rfl⟩
      exact ⟨rfl, Keep.refl _ _⟩
  · have := rsize_any (h.keep0 hx).sz
    rw [List.length_range] at this
    exact this

/-- A table: is it there, its frame, its entries. -/
structure Tab where
  th : Bool
  fr : Nat
  en : Nat → Nat

def tab0 : Tab := ⟨false, 0, fun _ => 0⟩
def setTab (T : Nat → Tab) (n : Nat) (t : Tab) : Nat → Tab := fun m => if m = n then t else T m
def setEn (t : Tab) (k e : Nat) : Tab := ⟨t.th, t.fr, fun j => if j = k then e else t.en j⟩

theorem setTab_same {T : Nat → Tab} {n : Nat} {t : Tab} : setTab T n t n = t := if_pos rfl
theorem setTab_ne {T : Nat → Tab} {n m : Nat} {t : Tab} (h : m ≠ n) : setTab T n t m = T m := if_neg h

/-- What an entry may be. -/
def GoodE (e : Nat) : Prop := e = 0 ∨ ∃ f b, f < 40 ∧ b < 16 ∧ b % 2 = 1 ∧ e = 64 * f + b

/-- The word at a place of the memory. -/
theorem word_other {L M : List Int} {p q : Nat} (hM : p + M.length ≤ L.length) (h : q + 4 ≤ p ∨ p + M.length ≤ q) : word4 (splice L p M) q = word4 L q := by
  have e : ∀ j, j < 4 → (splice L p M).getD (q + j) 0 = L.getD (q + j) 0 := fun j hj => getD_splice_out (by omega) hM
  have e0 := e 0 (by omega)
  rw [Nat.add_zero] at e0
  unfold word4
  rw [e0, e 1 (by omega), e 2 (by omega), e 3 (by omega)]

theorem getD_rep (m i : Nat) (z : Int) : (List.replicate m z).getD i 0 = if i < m then z else 0 := by
  rw [List.getD_eq_getElem?_getD, List.getElem?_replicate]
  split <;> rfl

theorem word_zero {L : List Int} {p q m : Nat} (hM : p + m ≤ L.length) (h1 : p ≤ q) (h2 : q + 4 ≤ p + m) : word4 (splice L p (List.replicate m (0 : Int))) q = 0 := by
  have e : ∀ j, j < 4 → (splice L p (List.replicate m (0 : Int))).getD (q + j) 0 = 0 := fun j hj => by
    have := getD_splice_in (L := L) (M := List.replicate m (0 : Int)) (p := p) (j := q + j - p) (by simp; omega) (by simpa using hM)
    rw [show p + (q + j - p) = q + j by omega] at this
    rw [this, getD_rep]
    split <;> rfl
  have e0 := e 0 (by omega)
  rw [Nat.add_zero] at e0
  unfold word4
  rw [e0, e 1 (by omega), e 2 (by omega), e 3 (by omega)]
  rfl

/-- How the tables stand, and the memory: the directory lies in the frames 8 and 9, the pool's frames from 20 on. -/
structure ShInv (most : Nat) (T : Nat → Tab) (L : List Int) : Prop where
  mst : most ≤ 12
  len : L.length = 2560
  byt : IsBytes L
  dirw : ∀ n, n < 32 → word4 L (512 + 4 * n) = if (T n).th then ((64 * (T n).fr + 7 : Nat) : Int) else 0
  tabw : ∀ n, n < 32 → (T n).th = true → ∀ k, k < 16 → word4 L (64 * (T n).fr + 4 * k) = (((T n).en k : Nat) : Int)
  frm : ∀ n, n < 32 → (T n).th = true → 20 ≤ (T n).fr ∧ (T n).fr < 20 + most
  inj : ∀ n m, n < 32 → m < 32 → (T n).th = true → (T m).th = true → (T n).fr = (T m).fr → n = m
  ent : ∀ n, n < 32 → ∀ k, k < 16 → GoodE ((T n).en k)
  off : ∀ n, n < 32 → (T n).th = false → ∀ k, (T n).en k = 0
  rest : ∀ i, i < 2560 → i / 64 ≠ 8 → i / 64 ≠ 9 → ¬ (20 ≤ i / 64 ∧ i / 64 < 20 + most) → L.getD i 0 = 165

theorem word4_of {L : List Int} {z : Nat} {p : Nat} (h : p + 4 ≤ L.length) : word4 (splice L p (le4 z)) p = (z : Int) := word4_splice h

theorem le4_len (z : Nat) : (le4 z).length = 4 := rfl

/-- An entry is laid. -/
theorem ShInv.lay {most : Nat} {T : Nat → Tab} {L : List Int} (h : ShInv most T L) {n k e : Nat} (hn : n < 32) (hk : k < 16) (ht : (T n).th = true) (he : GoodE e) :
    ShInv most (setTab T n (setEn (T n) k e)) (splice L (64 * (T n).fr + 4 * k) (le4 e)) := by
  have hf := h.frm n hn ht
  have hm := h.mst
  have hl := h.len
  have hel : e < 4294967296 := by
    rcases he with rfl | ⟨f, b, h1, h2, _, rfl⟩
    · omega
    · omega
  have hT : ∀ m, (setTab T n (setEn (T n) k e) m).th = (T m).th ∧ (setTab T n (setEn (T n) k e) m).fr = (T m).fr := fun m => by
    unfold setTab
    split
    · rename_i hh; subst hh; exact ⟨rfl, rfl⟩
    · exact ⟨rfl, rfl⟩
  have hE : ∀ m j, (setTab T n (setEn (T n) k e) m).en j = if m = n ∧ j = k then e else (T m).en j := fun m j => by
    unfold setTab
    split
    · rename_i hh
      subst hh
      show (if j = k then e else (T m).en j) = _
      by_cases hj : j = k
      · rw [if_pos hj, if_pos ⟨rfl, hj⟩]
      · rw [if_neg hj, if_neg (fun hh => hj hh.2)]
    · rename_i hh
      rw [if_neg (fun q => hh q.1)]
  refine ⟨hm, ?_, splice_bytes h.byt (le4_bytes hel), ?_, ?_, ?_, ?_, ?_, ?_, ?_⟩
  · rw [length_splice' _ _ _ (by rw [le4_len]; omega), hl]
  · intro m hmm
    rw [(hT m).1, (hT m).2, word_other (by rw [le4_len]; omega) (by rw [le4_len]; omega)]
    exact h.dirw m hmm
  · intro m hmm hth j hj
    rw [(hT m).1] at hth
    rw [(hT m).2, hE m j]
    by_cases hmn : m = n
    · subst hmn
      by_cases hjk : j = k
      · subst hjk
        rw [if_pos ⟨rfl, rfl⟩, word4_of (by omega)]
      · rw [if_neg (fun q => hjk q.2), word_other (by rw [le4_len]; omega) (by rw [le4_len]; omega)]
        exact h.tabw m hmm hth j hj
    · have hne : (T m).fr ≠ (T n).fr := fun q => hmn (h.inj m n hmm hn hth ht q)
      rw [if_neg (fun q => hmn q.1), word_other (by rw [le4_len]; omega) (by rw [le4_len]; omega)]
      exact h.tabw m hmm hth j hj
  · intro m hmm hth
    rw [(hT m).1] at hth
    rw [(hT m).2]
    exact h.frm m hmm hth
  · intro a b ha hb hta htb hab
    rw [(hT a).1] at hta
    rw [(hT b).1] at htb
    rw [(hT a).2, (hT b).2] at hab
    exact h.inj a b ha hb hta htb hab
  · intro m hmm j hj
    rw [hE m j]
    split
    · exact he
    · exact h.ent m hmm j hj
  · intro m hmm hth j
    rw [(hT m).1] at hth
    rw [hE m j, if_neg (fun q => by rw [q.1, ht] at hth; cases hth)]
    exact h.off m hmm hth j
  · intro i hi h8 h9 hp
    rw [getD_splice_out (by rw [le4_len]; omega) (by rw [le4_len]; omega)]
    exact h.rest i hi h8 h9 hp

/-- A table is lent. -/
theorem ShInv.lend {most : Nat} {T : Nat → Tab} {L : List Int} (h : ShInv most T L) {n f : Nat} (hn : n < 32) (ht : (T n).th = false) (hf : 20 ≤ f ∧ f < 20 + most) (hfree : ∀ m, m < 32 → (T m).th = true → (T m).fr ≠ f) :
    ShInv most (setTab T n ⟨true, f, fun _ => 0⟩) (splice (splice L (64 * f) (List.replicate 64 (0 : Int))) (512 + 4 * n) (le4 (64 * f + 7))) := by
  have hm := h.mst
  have hl := h.len
  have hl1 : (splice L (64 * f) (List.replicate 64 (0 : Int))).length = 2560 := by rw [length_splice' _ _ _ (by simp; omega), hl]
  refine ⟨hm, ?_, splice_bytes (splice_bytes h.byt (by intro x hx; rw [List.eq_of_mem_replicate hx]; omega)) (le4_bytes (by omega)), ?_, ?_, ?_, ?_, ?_, ?_, ?_⟩
  · rw [length_splice' _ _ _ (by rw [le4_len]; omega), hl1]
  · intro m hmm
    by_cases hmn : m = n
    · subst hmn
      rw [setTab_same, word4_of (by omega)]
      rfl
    · rw [setTab_ne hmn, word_other (by rw [le4_len]; omega) (by rw [le4_len]; omega), word_other (by simp; omega) (by simp; omega)]
      exact h.dirw m hmm
  · intro m hmm hth j hj
    by_cases hmn : m = n
    · subst hmn
      rw [setTab_same] at hth ⊢
      show word4 _ (64 * f + 4 * j) = ((0 : Nat) : Int)
      rw [word_other (by rw [le4_len]; omega) (by rw [le4_len]; omega), word_zero (by omega) (by omega) (by omega)]
      rfl
    · rw [setTab_ne hmn] at hth ⊢
      have h1 := h.frm m hmm hth
      have h2 := hfree m hmm hth
      rw [word_other (by rw [le4_len]; omega) (by rw [le4_len]; omega), word_other (by simp; omega) (by simp; omega)]
      exact h.tabw m hmm hth j hj
  · intro m hmm hth
    by_cases hmn : m = n
    · subst hmn; rw [setTab_same]; exact hf
    · rw [setTab_ne hmn] at hth ⊢
      exact h.frm m hmm hth
  · intro a b ha hb hta htb hab
    by_cases han : a = n
    · by_cases hbn : b = n
      · rw [han, hbn]
      · rw [han, setTab_same, setTab_ne hbn] at hab
        rw [setTab_ne hbn] at htb
        exact absurd hab.symm (hfree b hb htb)
    · by_cases hbn : b = n
      · rw [hbn, setTab_same, setTab_ne han] at hab
        rw [setTab_ne han] at hta
        exact absurd hab (hfree a ha hta)
      · rw [setTab_ne han] at hta hab
        rw [setTab_ne hbn] at htb hab
        exact h.inj a b ha hb hta htb hab
  · intro m hmm j hj
    by_cases hmn : m = n
    · rw [hmn, setTab_same]; exact .inl rfl
    · rw [setTab_ne hmn]; exact h.ent m hmm j hj
  · intro m hmm hth j
    by_cases hmn : m = n
    · rw [hmn, setTab_same]
    · rw [setTab_ne hmn] at hth ⊢; exact h.off m hmm hth j
  · intro i hi h8 h9 hp
    rw [getD_splice_out (by rw [le4_len]; omega) (by rw [le4_len]; omega), getD_splice_out (by simp; omega) (by simp; omega)]
    exact h.rest i hi h8 h9 hp

/-- All are cleared. -/
theorem ShInv.clear {most : Nat} {T : Nat → Tab} {L : List Int} (h : ShInv most T L) : ShInv most (fun _ => tab0) (splice L 512 (List.replicate 128 (0 : Int))) := by
  have hm := h.mst
  have hl := h.len
  refine ⟨hm, ?_, splice_bytes h.byt (by intro x hx; rw [List.eq_of_mem_replicate hx]; omega), ?_, ?_, ?_, ?_, ?_, ?_, ?_⟩
  · rw [length_splice' _ _ _ (by simp; omega), hl]
  · intro n hn
    rw [word_zero (by omega) (by omega) (by omega)]
    rfl
  · intro m _ hth; cases hth
  · intro m _ hth; cases hth
  · intro a b _ _ hta; cases hta
  · intro m _ j _; exact .inl rfl
  · intro m _ _ j; rfl
  · intro i hi h8 h9 hp
    rw [getD_splice_out (by simp; omega) (by simp; omega)]
    exact h.rest i hi h8 h9 hp

/-- At first. -/
theorem ShInv.first {most : Nat} (hm : most ≤ 12) : ShInv most (fun _ => tab0) (splice (List.replicate 2560 (165 : Int)) 512 (List.replicate 128 (0 : Int))) := by
  refine ⟨hm, ?_, splice_bytes (by intro x hx; rw [List.eq_of_mem_replicate hx]; omega) (by intro x hx; rw [List.eq_of_mem_replicate hx]; omega), ?_, ?_, ?_, ?_, ?_, ?_, ?_⟩
  · rw [length_splice' _ _ _ (by simp), List.length_replicate]
  · intro n hn
    rw [word_zero (by simp) (by omega) (by omega)]
    rfl
  · intro m _ hth; cases hth
  · intro m _ hth; cases hth
  · intro a b _ _ hta; cases hta
  · intro m _ j _; exact .inl rfl
  · intro m _ _ j; rfl
  · intro i hi h8 h9 hp
    rw [getD_splice_out (by simp; omega) (by simp), getD_rep, if_pos hi]

theorem rd_word {L : List Int} {a : Nat} (h : a % 4 = 0 ∧ a + 4 ≤ 2560) : rdOf 40 L a = some (word4 L a).toNat := by
  unfold rdOf
  rw [if_pos (layB_yes (by omega))]

/-- Where an address leads. -/
def leads (T : Nat → Tab) (va : Nat) : Nat := if va / 1024 < 32 ∧ (T (va / 1024)).th = true then (T (va / 1024)).en (va / 64 % 16) else 0

theorem look_sh {most : Nat} {T : Nat → Tab} {L : List Int} (h : ShInv most T L) (va : Nat) :
    (leads T va = 0 ∧ lookF (rdOf 40 L) 40 512 32 va = none) ∨
    ∃ f b, f < 40 ∧ b < 16 ∧ b % 2 = 1 ∧ leads T va = 64 * f + b ∧ ∃ e d t, lookF (rdOf 40 L) 40 512 32 va = some (b, 64 * f + va % 64, e, d, t, f) := by
  by_cases hv : 32 ≤ va / 1024
  · left
    unfold leads lookF
    rw [if_neg (by omega), if_pos hv]
    exact ⟨rfl, rfl⟩
  · have hd : dirAt 512 va = 512 + 4 * (va / 1024) := by unfold dirAt; omega
    have hw := h.dirw (va / 1024) (by omega)
    have hm := h.mst
    cases ht : (T (va / 1024)).th with
    | false =>
      left
      unfold leads lookF
      rw [ht, if_neg hv, hd, rd_word ⟨by omega, by omega⟩, hw, ht]
      exact ⟨by simp, by simp⟩
    | true =>
      have hf := h.frm _ (by omega) ht
      have htw := h.tabw _ (by omega) ht (va / 64 % 16) (by omega)
      have hx : lookF (rdOf 40 L) 40 512 32 va = (if (T (va / 1024)).en (va / 64 % 16) % 2 = 0 then none else if 64 * 40 ≤ endAt ((T (va / 1024)).en (va / 64 % 16)) va then none else some (refBits (64 * (T (va / 1024)).fr + 7) ((T (va / 1024)).en (va / 64 % 16)), endAt ((T (va / 1024)).en (va / 64 % 16)) va, tabAt (64 * (T (va / 1024)).fr + 7) va, dirAt 512 va / 64, tabAt (64 * (T (va / 1024)).fr + 7) va / 64, endAt ((T (va / 1024)).en (va / 64 % 16)) va / 64)) := by
        have ht2 : tabAt (64 * (T (va / 1024)).fr + 7) va = 64 * (T (va / 1024)).fr + 4 * (va / 64 % 16) := by unfold tabAt; omega
        unfold lookF
        rw [if_neg hv]
        conv => lhs; rw [hd, rd_word ⟨by omega, by omega⟩, hw, ht]
        simp only [if_true, Int.toNat_natCast]
        rw [if_neg (by omega), ht2, rd_word ⟨by omega, by omega⟩, htw]
        simp only [Int.toNat_natCast]
        rw [hd]
      have hle : leads T va = (T (va / 1024)).en (va / 64 % 16) := by
        unfold leads
        rw [if_pos ⟨by omega, ht⟩]
      have hg := h.ent (va / 1024) (by omega) (va / 64 % 16) (by omega)
      rw [hx, hle]
      clear htw hx hle
      generalize (T (va / 1024)).en (va / 64 % 16) = y at hg ⊢
      rcases hg with rfl | ⟨f, b, h1, h2, h3, rfl⟩
      · left; exact ⟨rfl, rfl⟩
      · right
        refine ⟨f, b, h1, h2, h3, rfl, ?_⟩
        have e1 : endAt (64 * f + b) va = 64 * f + va % 64 := by unfold endAt; omega
        have e2 : refBits (64 * (T (va / 1024)).fr + 7) (64 * f + b) = b := by
          unfold refBits
          have hb : b = 1 ∨ b = 3 ∨ b = 5 ∨ b = 7 ∨ b = 9 ∨ b = 11 ∨ b = 13 ∨ b = 15 := by omega
          have a2 : (64 * (T (va / 1024)).fr + 7) / 2 % 2 = 1 := by omega
          have a4 : (64 * (T (va / 1024)).fr + 7) / 4 % 2 = 1 := by omega
          have a8 : (64 * (T (va / 1024)).fr + 7) / 8 % 2 = 0 := by omega
          have b2 : (64 * f + b) / 2 % 2 = b / 2 % 2 := by omega
          have b4 : (64 * f + b) / 4 % 2 = b / 4 % 2 := by omega
          have b8 : (64 * f + b) / 8 % 2 = b / 8 % 2 := by omega
          have b16 : (64 * f + b) / 16 % 2 = 0 := by omega
          rw [a2, a4, a8, b2, b4, b8, b16]
          rcases hb with rfl | rfl | rfl | rfl | rfl | rfl | rfl | rfl <;> rfl
        rw [if_neg (by omega), if_neg (by omega), e1, e2]
        exact ⟨_, _, _, by rw [show (64 * f + va % 64) / 64 = f by omega]⟩
end Go.Proofs.Ytpinoejckagjbaa
