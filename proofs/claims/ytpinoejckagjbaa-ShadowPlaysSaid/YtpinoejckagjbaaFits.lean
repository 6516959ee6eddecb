/- What an argument that can be read as data looks like in memory, by its type; no slice is longer than B. -/
import Derived.Test.YtpinoejckagjbaaRows
import Derived.Test.YtpinoejckagjbaaLib
import Derived.ProofKit
import Derived.OpenShut
import Derived.ChangeArms
import Derived.DataReads
namespace Go.Proofs.Ytpinoejckagjbaa
open Go.RowKit Go.Mum Go.ChangeShapes Go.WideShapes

/-- The cells 'cs' are a value of the type t, and what it leads to is too; no slice is longer than B. -/
def Fits (P : Program) (w : World) (B : Nat) : Nat → TypeId → List Value → Prop
  | 0, _, _ => False
  | n + 1, t, cs => match P.underlying t with
    | some .bool => ∃ b, cs = [.bool b]
    | some (.int k) => ∃ z, cs = [.int k z] ∧ (Lit.int k z).wf = true
    | some .string => ∃ s : ByteArray, cs = [.string s] ∧ s.size ≤ maxLen
    | some (.struct fs) => cs.length = P.cellsOf t ∧ ∀ f ∈ fs.toList, Fits P w B n f.type ((cs.drop f.offset).take (P.cellsOf f.type))
    | some (.array len e) => cs.length = P.cellsOf t ∧ ∀ i, i < len → Fits P w B n e ((cs.drop (i * P.cellsOf e)).take (P.cellsOf e))
    | some (.slice e) => cs = [.slice none 0 0] ∨ ∃ a len cap, cs = [.slice (some a) len cap] ∧ len ≤ cap ∧ cap ≤ maxLen ∧ len ≤ B ∧
        ∀ i, i < len → ∃ ds, w.cells? 0 (a.add (i * P.cellsOf e)) (P.cellsOf e) = some ds ∧ Fits P w B n e ds
    | _ => True

theorem bulkAll_of_mem {H : Type} : ∀ {l : List (DataW H)} {d : DataW H}, d ∈ l → Rows.uptoBulk d ≤ Rows.uptoBulkAll l
  | x :: r, d, h => by
    unfold Rows.uptoBulkAll
    rcases List.mem_cons.1 h with rfl | h
    · omega
    · have := bulkAll_of_mem h; omega

theorem bulk_pos {H : Type} (d : DataW H) : 1 ≤ Rows.uptoBulk d := by
  unfold Rows.uptoBulk
  split <;> omega

theorem bulkAll_length {H : Type} : ∀ l : List (DataW H), l.length ≤ Rows.uptoBulkAll l
  | [] => Nat.zero_le _
  | x :: r => by
    unfold Rows.uptoBulkAll
    have h1 := bulk_pos x
    have h2 := bulkAll_length r
    simp only [List.length_cons]
    omega

section
variable {H : Type} {enc : TypeId × Value → H} {P : Program} {w : World} {spare : Nat → Bool} {held : Bool} {B : Nat}

theorem fits_of_trod : ∀ (fuel : Nat) (t : TypeId) (cs : List Value) (x : DataW H × List MemPlace), DataW.trod enc P w 0 spare held fuel t cs = some x →
    (maxLen ≤ B ∨ Rows.uptoBulk x.1 ≤ B) → Fits P w B fuel t cs
  | 0, _, _, _, h, _ => by simp [DataW.trod] at h
  | n + 1, t, cs, x, h, hb => by
    unfold Fits
    split
    · rename_i hu
      rw [DataW.trod_step] at h
      unfold DataW.trodStep at h
      rw [hu] at h
      split at h <;> simp_all
    · rename_i k hu
      rw [DataW.trod_step] at h
      unfold DataW.trodStep at h
      rw [hu] at h
      split at h <;> simp_all
    · rename_i hu
      rw [DataW.trod_step] at h
      unfold DataW.trodStep at h
      rw [hu] at h
      split at h <;> simp_all
    · rename_i fs hu
      obtain ⟨xs, m, hm, rfl, hl, hlen, hf⟩ := DataW.trod_struct hu h
      obtain rfl : n = m := by omega
      refine ⟨hl, fun f hfm => ?_⟩
      obtain ⟨i, hi⟩ := List.getElem?_of_mem hfm
      have hi' : fs[i]? = some f := by simpa using hi
      have hil : i < xs.length := by rw [hlen]; exact (Array.getElem?_eq_some_iff.1 hi').1
      have := hf i f hi'
      rw [List.getElem?_eq_getElem hil] at this
      refine fits_of_trod n _ _ _ this ?_
      rcases hb with hb | hb
      · exact .inl hb
      · right
        unfold Rows.uptoBulk at hb
        have := bulkAll_of_mem (List.mem_map.2 ⟨xs[i], List.getElem_mem hil, rfl⟩ : xs[i].1 ∈ xs.map (·.1))
        omega
    · rename_i len e hu
      obtain ⟨xs, m, hm, rfl, hl, hlen, hf⟩ := DataW.trod_array hu h
      obtain rfl : n = m := by omega
      refine ⟨hl, fun i hi => ?_⟩
      have hil : i < xs.length := by omega
      have := hf i hi
      rw [List.getElem?_eq_getElem hil] at this
      refine fits_of_trod n _ _ _ this ?_
      rcases hb with hb | hb
      · exact .inl hb
      · right
        unfold Rows.uptoBulk at hb
        have := bulkAll_of_mem (List.mem_map.2 ⟨xs[i], List.getElem_mem hil, rfl⟩ : xs[i].1 ∈ xs.map (·.1))
        omega
    · rename_i e hu
      rcases DataW.trod_slice hu h with ⟨rfl, _⟩ | ⟨a, len, cap, elems, rest, m, hm, rfl, rfl, _, hl, hmx, hlen, hel, _⟩
      · exact .inl rfl
      · obtain rfl : n = m := by omega
        refine .inr ⟨a, len, cap, rfl, hl, hmx, ?_, fun i hi => ?_⟩
        · rcases hb with hb | hb
          · omega
          · unfold Rows.uptoBulk at hb
            have := bulkAll_length (elems.map (·.1))
            simp only [List.length_map] at this
            omega
        · have hil : i < elems.length := by omega
          have := hel i hi
          rw [List.getElem?_eq_getElem hil] at this
          obtain ⟨ds, h1, h2⟩ := Option.bind_eq_some_iff.1 this
          refine ⟨ds, h1, fits_of_trod n _ _ _ h2 ?_⟩
          rcases hb with hb | hb
          · exact .inl hb
          · right
            unfold Rows.uptoBulk at hb
            have := bulkAll_of_mem (List.mem_map.2 ⟨elems[i], List.getElem_mem hil, rfl⟩ : elems[i].1 ∈ elems.map (·.1))
            omega
    · trivial

/-- An argument as it comes in. -/
theorem fits_of_arg {t : TypeId} {v : Value} {d : DataW H} {p : List MemPlace} (h : DataW.Trod enc P w 0 spare held t v d p) (hb : maxLen ≤ B ∨ Rows.uptoBulk d ≤ B) : ∃ n, Fits P w B n t v.cells.toList := by
  obtain ⟨fuel, hf⟩ := h
  exact ⟨fuel, fits_of_trod fuel t _ _ hf hb⟩
end

theorem okWide_array {P : Program} {w : World} {r : Reach} {base : Nat} {t : TypeId} {v : Value} {n : Nat} {e : TypeId} (ht : P.underlying t = some (.array n e)) (h : Value.okWide P w r base t v) : ∃ cs, v = .agg cs := by
  simp only [Value.okWide, ht] at h
  obtain ⟨cs, h1, _⟩ := h
  exact ⟨cs, h1⟩

section
variable {P : Program} {w : World} {B n : Nat} {t e : TypeId} {cs : List Value}

theorem Fits.int {k : IntKind} (h : Fits P w B n t cs) (ht : P.underlying t = some (.int k)) : ∃ z, cs = [.int k z] ∧ (Lit.int k z).wf = true := by
  cases n with
  | zero => exact h.elim
  | succ n => unfold Fits at h; rw [ht] at h; exact h

theorem Fits.bool (h : Fits P w B n t cs) (ht : P.underlying t = some .bool) : ∃ b, cs = [.bool b] := by
  cases n with
  | zero => exact h.elim
  | succ n => unfold Fits at h; rw [ht] at h; exact h

theorem Fits.struct {fs : Array Field} (h : Fits P w B n t cs) (ht : P.underlying t = some (.struct fs)) : ∃ m, cs.length = P.cellsOf t ∧ ∀ f ∈ fs.toList, Fits P w B m f.type ((cs.drop f.offset).take (P.cellsOf f.type)) := by
  cases n with
  | zero => exact h.elim
  | succ n => unfold Fits at h; rw [ht] at h; exact ⟨n, h⟩

theorem Fits.array {len : Nat} (h : Fits P w B n t cs) (ht : P.underlying t = some (.array len e)) : ∃ m, cs.length = P.cellsOf t ∧ ∀ i, i < len → Fits P w B m e ((cs.drop (i * P.cellsOf e)).take (P.cellsOf e)) := by
  cases n with
  | zero => exact h.elim
  | succ n => unfold Fits at h; rw [ht] at h; exact ⟨n, h⟩

theorem Fits.slice {a : Option Addr} {len cap : Nat} (h : Fits P w B n t [.slice a len cap]) (ht : P.underlying t = some (.slice e)) :
    (a = none ∧ len = 0 ∧ cap = 0) ∨ ∃ b m, a = some b ∧ len ≤ cap ∧ cap ≤ maxLen ∧ len ≤ B ∧ ∀ i, i < len → ∃ ds, w.cells? 0 (b.add (i * P.cellsOf e)) (P.cellsOf e) = some ds ∧ Fits P w B m e ds := by
  cases n with
  | zero => exact h.elim
  | succ n =>
    unfold Fits at h
    rw [ht] at h
    rcases h with h | ⟨b, l, c, h, h1, h2, h3, h4⟩
    · simp at h; exact .inl h
    · simp at h
      obtain ⟨rfl, rfl, rfl⟩ := h
      exact .inr ⟨b, n, rfl, h1, h2, h3, h4⟩
end

/-- The elements of a slice that came in, cell by cell. -/
theorem Fits.rows {P : Program} {w : World} {B n : Nat} {t e : TypeId} {a : Option Addr} {len cap : Nat} (h : Fits P w B n t [.slice a len cap]) (ht : P.underlying t = some (.slice e)) (c : Nat) (hc : P.cellsOf e = c) (h0 : 0 < c) :
    len = 0 ∨ ∃ b off m, a = some ⟨b, off, none⟩ ∧ 0 < len ∧ len ≤ cap ∧ cap ≤ maxLen ∧ len ≤ B ∧ b < w.heap.size ∧
      ∀ i, i < len → ∃ ds : List Value, ds.length = c ∧ (∀ j, j < c → w.cell? ⟨b, off + i * c + j, none⟩ = ds[j]?) ∧ Fits P w B m e ds := by
  rcases h.slice ht with ⟨_, h1, _⟩ | ⟨a, m, rfl, h1, h2, h3, h4⟩
  · exact .inl h1
  · by_cases hl : len = 0
    · exact .inl hl
    · right
      rw [hc] at h4
      have key : a.spot = none ∧ a.block < w.heap.size := by
        obtain ⟨ds, hd, _⟩ := h4 0 (by omega)
        obtain ⟨_, hlen, hcell⟩ := World.cells?_some hd
        have h00 := hcell 0 (by omega)
        rw [List.getElem?_eq_getElem (by omega)] at h00
        simp only [Nat.zero_mul, Addr.add, if_true] at h00
        refine ⟨?_, World.block_lt_of_cell? w a h00⟩
        unfold World.cell? at h00
        cases hs : a.spot with
        | none => rfl
        | some q =>
          split at h00
          · simp [hs] at h00
          · simp at h00
      obtain ⟨b, off, sp⟩ := a
      obtain ⟨hsp, hlt⟩ := key
      simp only at hsp hlt
      subst hsp
      refine ⟨b, off, m, rfl, by omega, h1, h2, h3, hlt, fun i hi => ?_⟩
      obtain ⟨ds, hd, hf⟩ := h4 i hi
      obtain ⟨_, hlen, hcell⟩ := World.cells?_some hd
      refine ⟨ds, hlen, fun j hj => ?_, hf⟩
      have := hcell j hj
      rw [Addr.add_lit, Addr.add_lit] at this
      exact this

theorem Fits.ints {P : Program} {w : World} {B n : Nat} {t e : TypeId} {k : IntKind} {a : Option Addr} {len cap : Nat} (h : Fits P w B n t [.slice a len cap]) (ht : P.underlying t = some (.slice e)) (he : P.underlying e = some (.int k)) (hc : P.cellsOf e = 1) :
    len = 0 ∨ ∃ b off, a = some ⟨b, off, none⟩ ∧ 0 < len ∧ len ≤ cap ∧ cap ≤ maxLen ∧ len ≤ B ∧ b < w.heap.size ∧ ∃ z : Nat → Int, ∀ i, i < len → w.cell? ⟨b, off + i, none⟩ = some (.int k (z i)) ∧ (Lit.int k (z i)).wf = true := by
  rcases h.rows ht 1 hc (by omega) with h0 | ⟨b, off, m, rfl, h0, h1, h2, h3, h4, h5⟩
  · exact .inl h0
  · right
    have each : ∀ i, ∃ z, i < len → w.cell? ⟨b, off + i, none⟩ = some (.int k z) ∧ (Lit.int k z).wf = true := by
      intro i
      by_cases hi : i < len
      · obtain ⟨ds, hd, hcell, hf⟩ := h5 i hi
        obtain ⟨z, rfl, hz⟩ := hf.int he
        have := hcell 0 (by omega)
        simp only [Nat.mul_one, Nat.add_zero, List.getElem?_cons_zero] at this
        exact ⟨z, fun _ => ⟨this, hz⟩⟩
      · exact ⟨0, fun h => absurd h hi⟩
    exact ⟨b, off, rfl, h0, h1, h2, h3, h4, fun i => (each i).choose, fun i hi => (each i).choose_spec hi⟩

theorem wf_i64 {z : Int} (h : (Lit.int .i64 z).wf = true) : -9223372036854775808 ≤ z ∧ z ≤ 9223372036854775807 := by simp only [Lit.wf, IntKind.min, IntKind.max, IntKind.signed, IntKind.bits, Bool.and_eq_true, decide_eq_true_eq] at h; simp at h; exact h
theorem wf_u32 {z : Int} (h : (Lit.int .u32 z).wf = true) : 0 ≤ z ∧ z ≤ 4294967295 := by simp only [Lit.wf, IntKind.min, IntKind.max, IntKind.signed, IntKind.bits, Bool.and_eq_true] at h; simp at h; exact h
theorem wf_u8 {z : Int} (h : (Lit.int .u8 z).wf = true) : 0 ≤ z ∧ z ≤ 255 := by simp only [Lit.wf, IntKind.min, IntKind.max, IntKind.signed, IntKind.bits, Bool.and_eq_true] at h; simp at h; exact h
theorem wf_u64 {z : Int} (h : (Lit.int .u64 z).wf = true) : 0 ≤ z ∧ z ≤ 18446744073709551615 := by simp only [Lit.wf, IntKind.min, IntKind.max, IntKind.signed, IntKind.bits, Bool.and_eq_true] at h; simp at h; exact h

end Go.Proofs.Ytpinoejckagjbaa
