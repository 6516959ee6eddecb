/- Contracts of the functions that the law reaches, walked, and the plain laws on them (several texts in one). -/
import Derived.Deep.AppendSrc
import Derived.Deep.Upon
import Derived.Test.YtgeakpeaohggoaaRows
import Derived.ProofKit
import Derived.OpenShut
import Derived.ChangeArms
import Derived.DataReads
import Derived.Test.YtgeakpeaohggoaaM01

/- A slice that is written and re-sliced: a part of a row of its own, in whatever place; append onto it. -/
namespace Go.Mum
open Go.RowKit

/-- The blocks that a slice may write: none, where it has no room. -/
def blk : Value → List Nat
  | .slice (some a) _ c => if c = 0 then [] else [a.block]
  | _ => []

/-- The value is a slice of n elements, whose cells are xs, in a row of its own. -/
structure Buf (w : World) (e : TypeId) (sz : Nat) (v : Value) (n : Nat) (xs : List Value) : Prop where
  len : xs.length = n * sz
  at' : ∃ a c, v = .slice a n c ∧ n ≤ c ∧ c ≤ maxLen ∧ (c = 0 ∨ ∃ g off cur, a = some ⟨g, off, none⟩ ∧ w.heap[g]? = some (.cells cur e (0, 0)) ∧ off + c * sz ≤ cur.size ∧ ∀ j u, xs[j]? = some u → cur[off + j]? = some u)

variable {w x : World} {e : TypeId} {sz : Nat} {v : Value} {n : Nat} {xs : List Value}

theorem Buf.nil (w : World) (e : TypeId) (sz : Nat) : Buf w e sz (.slice none 0 0) 0 [] := ⟨by simp, none, 0, rfl, Nat.le_refl _, by unfold maxLen; omega, .inl rfl⟩
theorem Buf.empty (w : World) (e : TypeId) (sz : Nat) (a : Option Addr) : Buf w e sz (.slice a 0 0) 0 [] := ⟨by simp, a, 0, rfl, Nat.le_refl _, by unfold maxLen; omega, .inl rfl⟩

theorem Buf.keep {l : List Nat} (h : Buf w e sz v n xs) (hk : Keep l w x) (hn : ∀ k ∈ blk v, k ∉ l) : Buf x e sz v n xs := by
  obtain ⟨hl, a, c, rfl, h1, h2, h3⟩ := h
  refine ⟨hl, a, c, rfl, h1, h2, ?_⟩
  rcases h3 with h3 | ⟨g, off, cur, rfl, hg, h4, h5⟩
  · exact .inl h3
  · by_cases hc : c = 0
    · exact .inl hc
    · exact .inr ⟨g, off, cur, rfl, hk.heap hg (hn g (by simp [blk, hc])), h4, h5⟩

theorem Buf.keep0 (h : Buf w e sz v n xs) (hk : Keep [] w x) : Buf x e sz v n xs := h.keep hk (fun _ _ => by simp)

theorem Buf.lt (h : Buf w e sz v n xs) : ∀ k ∈ blk v, k < w.heap.size := by
  obtain ⟨hl, a, c, rfl, h1, h2, h3⟩ := h
  intro k hk
  rcases h3 with rfl | ⟨g, off, cur, rfl, hg, h4, h5⟩
  · cases a <;> simp [blk] at hk
  · by_cases hc : c = 0
    · simp [blk, hc] at hk
    · simp [blk, hc] at hk; subst hk; exact lt_of_heap hg

/-- It can be read. -/
theorem Buf.cells (h : Buf w e sz v n xs) (h0 : 0 < n) : ∃ g off c, v = .slice (some ⟨g, off, none⟩) n c ∧ n ≤ c ∧ ∀ j u, xs[j]? = some u → w.cell? ⟨g, off + j, none⟩ = some u := by
  obtain ⟨hl, a, c, rfl, h1, h2, h3⟩ := h
  rcases h3 with rfl | ⟨g, off, cur, rfl, hg, h4, h5⟩
  · omega
  · exact ⟨g, off, c, rfl, h1, fun j u hu => cell_of hg _ (h5 j u hu)⟩

/-- Its end, from an element on. -/
theorem Buf.drop {g off c : Nat} (h : Buf w e sz (.slice (some ⟨g, off, none⟩) n c) n xs) (k : Nat) (hk : k ≤ n) : Buf w e sz (.slice (some ⟨g, off + k * sz, none⟩) (n - k) (c - k)) (n - k) (xs.drop (k * sz)) := by
  obtain ⟨hl, a, c', e1, h1, h2, h3⟩ := h
  injection e1 with e1 e2 e3
  subst e1 e3
  refine ⟨by rw [List.length_drop, hl, Nat.sub_mul], _, _, rfl, by omega, by omega, ?_⟩
  rcases h3 with h3 | ⟨g', off', cur, e4, hg, h4, h5⟩
  · exact .inl (by omega)
  · injection e4 with e4
    injection e4 with e4 e5
    subst e4 e5
    by_cases hck : k ≤ c
    · refine .inr ⟨g, _, cur, rfl, hg, ?_, ?_⟩
      · have : k * sz ≤ c * sz := Nat.mul_le_mul_right _ hck
        rw [Nat.sub_mul]; omega
      · intro j u hu
        rw [List.getElem?_drop] at hu
        have := h5 _ u hu
        rwa [← Nat.add_assoc] at this
    · omega

theorem blk_drop {g off n c k m : Nat} : ∀ j ∈ blk (.slice (some ⟨g, off + k, none⟩) m (c - n)), j ∈ blk (.slice (some ⟨g, off, none⟩) (m + n) c) := by
  intro j hj
  by_cases hc : c - n = 0
  · simp [blk, hc] at hj
  · have : c ≠ 0 := by omega
    simp [blk, hc] at hj
    simp [blk, this, hj]

/-- A block behind the storing of several cells. -/
theorem heap_setCells_same {b : Nat} {t : TypeId} {fz : Nat × Nat} : ∀ (vs : List Value) (o : Nat) (w : World) (cs : Array Value), w.heap[b]? = some (.cells cs t fz) → o + vs.length ≤ cs.size →
    ∃ cs', (w.setCells b o vs).heap[b]? = some (.cells cs' t fz) ∧ cs'.size = cs.size ∧ (∀ j, j < o → cs'[j]? = cs[j]?) ∧ (∀ j u, vs[j]? = some u → cs'[o + j]? = some u) ∧ ∀ j, o + vs.length ≤ j → cs'[j]? = cs[j]?
  | [], o, w, cs, h, _ => ⟨cs, h, rfl, fun _ _ => rfl, fun j u hu => by simp at hu, fun _ _ => rfl⟩
  | v :: vs, o, w, cs, h, hl => by
    simp only [List.length_cons] at hl
    obtain ⟨cs', h1, h2, h3, h4, h5⟩ := heap_setCells_same vs (o + 1) (w.setCell ⟨b, o, none⟩ v) _ (heap_set_same h o v) (by simp; omega)
    refine ⟨cs', h1, by rw [h2]; simp, ?_, ?_, ?_⟩
    · intro j hj
      rw [h3 j (by omega), Array.getElem?_setIfInBounds_ne (by omega)]
    · intro j u hu
      cases j with
      | zero =>
        simp only [List.getElem?_cons_zero, Option.some.injEq] at hu
        subst hu
        rw [Nat.add_zero, h3 o (by omega), Array.getElem?_setIfInBounds_self_of_lt (by omega)]
      | succ j =>
        simp only [List.getElem?_cons_succ] at hu
        have := h4 j u hu
        rwa [show o + (j + 1) = o + 1 + j from by omega]
    · intro j hj
      simp only [List.length_cons] at hj
      rw [h5 j (by omega), Array.getElem?_setIfInBounds_ne (by omega)]

theorem keep_setCells {l : List Nat} {b : Nat} (hb : b ∈ l) : ∀ (vs : List Value) (o : Nat) (x : World), Keep l w x → Keep l w (x.setCells b o vs)
  | [], _, _, h => h
  | v :: vs, o, _, h => keep_setCells hb vs (o + 1) _ (h.setCell (p := ⟨b, o, none⟩) (.inl hb) v)

/-- Lists that have nothing in common, two and two. -/
def Aps (l : List (List Nat)) : Prop := l.Pairwise (fun a b => ∀ k ∈ a, k ∉ b)

theorem Aps.get {l : List (List Nat)} (h : Aps l) {i j : Nat} (hi : i < l.length) (hj : j < l.length) (hij : i ≠ j) : ∀ k ∈ l[i], k ∉ l[j] := by
  have h' := List.pairwise_iff_getElem.1 h
  rcases Nat.lt_or_gt_of_ne hij with h1 | h1
  · exact h' i j hi hj h1
  · intro k hk hm
    exact h' j i hj hi h1 k hm hk

theorem Aps.set {l : List (List Nat)} (h : Aps l) (N n : Nat) (hN : ∀ a ∈ l, ∀ k ∈ a, k < N) (y : List Nat) (hn : n < l.length) (hy : ∀ k ∈ y, k ∈ l[n] ∨ N ≤ k) : Aps (l.set n y) := by
  refine List.pairwise_iff_getElem.2 fun i j hi hj hij => ?_
  simp only [List.length_set] at hi hj
  intro k
  rw [List.getElem_set, List.getElem_set]
  by_cases e1 : n = i
  · subst e1
    have e2 : ¬ n = j := by omega
    rw [if_pos rfl, if_neg e2]
    intro hk hm
    rcases hy k hk with h1 | h1
    · exact h.get hn hj (by omega) k h1 hm
    · have := hN _ (List.getElem_mem hj) k hm; omega
  · rw [if_neg e1]
    by_cases e2 : n = j
    · subst e2
      rw [if_pos rfl]
      intro hk hm
      rcases hy k hm with h1 | h1
      · exact h.get hi hn (by omega) k hk h1
      · have := hN _ (List.getElem_mem hi) k hk; omega
    · rw [if_neg e2]
      exact h.get hi hj (by omega) k

/-- append, whatever is appended. -/
theorem run_append_buf {P : Program} (t ty : TypeId) (i : TypeInfo) (z : Value) (bytes : Nat) (ht : P.underlying t = some (.slice e)) (hi : P.info? e = some i) (hz : i.zero = some z)
    (hsize : i.size = sz) (hby : i.bytes = bytes) (h : Buf w e sz v n xs)
    (y : Value) (m : Nat) (news : List Value) (hs : Src P sz t y m news w) (hzs : z.cells.size = sz)
    (h63 : n + m ≤ maxLen) (hbytes : (n + m) * bytes ≤ 140737488355328) :
    ∃ v' w', (Builtin.append_ #[t, t] ty #[v, y]).run P w = .ok v' w' ∧ Buf w' e sz v' (n + m) (xs ++ news) ∧ Keep (blk v) w w' ∧ (∀ k ∈ blk v', k ∈ blk v ∨ k = w.heap.size) := by
  subst hsize hby
  obtain ⟨hl, a, c, rfl, h1, h2, h3⟩ := h
  have hnl := hs.newsLen
  have hlen : (xs ++ news).length = (n + m) * i.size := by rw [List.length_append, hl, hnl, Nat.add_mul]
  by_cases hroom : n + m ≤ c
  · rcases h3 with rfl | ⟨g, off, cur, rfl, hg, h4, h5⟩
    · -- nothing onto nothing
      obtain rfl : n = 0 := by omega
      obtain rfl : m = 0 := by omega
      have hx : xs = [] := List.eq_nil_of_length_eq_zero (by simpa using hl)
      have hn : news = [] := List.eq_nil_of_length_eq_zero (by simpa using hnl)
      subst hx hn
      exact ⟨_, _, run_append_nothing (P := P) w t t ty e i ht hi a 0 0 (Nat.le_refl _) y hs, ⟨by simp, a, 0, rfl, Nat.le_refl _, h2, .inl rfl⟩, Keep.refl _ _, fun k hk => .inl hk⟩
    · by_cases hc : c = 0
      · obtain rfl : n = 0 := by omega
        obtain rfl : m = 0 := by omega
        have hx : xs = [] := List.eq_nil_of_length_eq_zero (by simpa using hl)
        have hn : news = [] := List.eq_nil_of_length_eq_zero (by simpa using hnl)
        subst hx hn hc
        exact ⟨_, _, run_append_nothing (P := P) w t t ty e i ht hi _ 0 0 (Nat.le_refl _) y hs, ⟨by simp, _, 0, rfl, Nat.le_refl _, h2, .inl rfl⟩, Keep.refl _ _, fun k hk => .inl hk⟩
      · have hfit : off + n * i.size + news.length ≤ cur.size := by
          have : (n + m) * i.size ≤ c * i.size := Nat.mul_le_mul_right _ hroom
          rw [Nat.add_mul] at this; omega
        have hr := run_append_room_src (P := P) w t t ty e i ht hi g off n c y m news hs hroom
          (fun j hj => by rw [cell_of hg (off + n * i.size + j) (v := cur[off + n * i.size + j]'(by omega)) (by simp [show off + n * i.size + j < cur.size from by omega])]; rfl) (fun j hj => frozen_of hg _)
        obtain ⟨cs', g1, g2, g3, g4, g5⟩ := heap_setCells_same news (off + n * i.size) w cur hg hfit
        refine ⟨_, _, hr, ⟨hlen, _, c, rfl, hroom, h2, .inr ⟨g, off, cs', rfl, g1, by omega, ?_⟩⟩, keep_setCells (by simp [blk, hc]) _ _ _ (Keep.refl _ _), fun k hk => .inl hk⟩
        intro j u hu
        by_cases hj : j < xs.length
        · rw [List.getElem?_append_left hj] at hu
          rw [g3 _ (by omega)]; exact h5 j u hu
        · rw [List.getElem?_append_right (by omega)] at hu
          have := g4 _ u hu
          rwa [show off + n * i.size + (j - xs.length) = off + j from by omega] at this
  · have hold : (Builtin.firstCells i.size n (.slice a n c)).run P w.drew = .ok xs.toArray w.drew := by
      rcases h3 with rfl | ⟨g, off, cur, rfl, hg, h4, h5⟩
      · obtain rfl : n = 0 := by omega
        have hx : xs = [] := List.eq_nil_of_length_eq_zero (by simpa using hl)
        subst hx
        cases a with
        | none => exact run_firstCells_none w.drew i.size 0 0 0
        | some a => exact run_firstCells_some w.drew i.size 0 a 0 0 [] (by simp) (by simp)
      · exact run_firstCells_some w.drew i.size n ⟨g, off, none⟩ n c xs hl (fun j u hu => by
          show w.cell? _ = _
          rw [Addr.add_lit]; exact cell_of hg _ (h5 j u hu))
    have hsmall : n + m ≤ 9223372036854775807 := by simp only [maxLen] at h63; omega
    have hr := run_append_grow_src (P := P) w t t ty e i z ht hi hz a n c xs hold y m news hs (by omega) (by omega) (growslice_fits (by omega) hbytes)
    have hge := grownCap_ge w (n + m) c e
    have hcm := grownCap_le_maxLen w (n + m) c e h63
    refine ⟨_, _, hr, ⟨hlen, _, _, rfl, hge, hcm, .inr ⟨w.heap.size, 0, _, rfl, heap_alloc_new w.drew _, ?_, ?_⟩⟩, (Keep.refl _ _).drew.alloc _, ?_⟩
    · simp only [Array.size_append, List.size_toArray, size_zeroCells, hzs, hlen, ← Nat.add_mul]
      rw [Nat.zero_add]
      exact Nat.mul_le_mul_right _ (by omega)
    · intro j u hu
      have hj : j < (xs ++ news).length := by
        rcases Nat.lt_or_ge j (xs ++ news).length with h | h
        · exact h
        · rw [List.getElem?_eq_none h] at hu; cases hu
      rw [Nat.zero_add, Array.getElem?_append_left (by simpa using hj)]
      simpa using hu
    · intro k hk
      right
      simp only [blk] at hk
      split at hk
      · cases hk
      · simpa using hk

section
variable {P : Program} {ops : Array Oper} {rest : List Oper} {o : Oper} {act : Act} {Q : Exit → Act → World → Prop}

/-- For the walk. -/
theorem wpList_append_buf (hgd : o.guard = none) (s y : Operand) (t : TypeId) (ho : o.op = .call { callee := .builtin .append, args := #[s, y], argTypes := #[t, t] })
    (e : TypeId) (sz : Nat) (i : TypeInfo) (z : Value) (bytes : Nat) (ht : P.underlying t = some (.slice e)) (hi : P.info? e = some i) (hz : i.zero = some z)
    (hsize : i.size = sz) (hby : i.bytes = bytes) (v : Value) (n : Nat) (xs : List Value) (hsv : act.eval s = v) (h : Buf w e sz v n xs)
    (yv : Value) (m : Nat) (news : List Value) (hy : act.eval y = yv) (hs : Src P sz t yv m news w) (hzs : z.cells.size = sz)
    (h63 : n + m ≤ maxLen) (hbytes : (n + m) * bytes ≤ 140737488355328)
    (hK : ∀ v' w', Buf w' e sz v' (n + m) (xs ++ news) → Keep (blk v) w w' → (∀ k ∈ blk v', k ∈ blk v ∨ k = w.heap.size) → wpList P ops Q rest (act.put o.dst v') w') :
    wpList P ops Q (o :: rest) act w := by
  refine wpList_plain hgd fun K hK' => ?_
  obtain ⟨v', w', hr, h2, h3, h4⟩ := run_append_buf (P := P) t o.type i z bytes ht hi hz hsize hby h yv m news hs hzs h63 hbytes
  unfold Oper.wp execOp
  simp only [ho, resolve, invoke, builtin, Sem.run_bind, Sem.run_pure, Result.andThen_ok, List.map_toArray, List.map_cons, List.map_nil, hsv, hy, hr]
  exact hK' _ _ (hK v' w' h2 h3 h4)
end

end Go.Mum

/- What an argument that can be read as data looks like in memory, by its type; no slice is longer than B. -/
namespace Go.Proofs.Ytgeakpeaohggoaa
open Go.RowKit Go.Mum Go.ChangeShapes Go.WideShapes

/-- The cells 'cs' are a value of the type t, and what it leads to is too; no slice is longer than B. -/
def Fits (P : Program) (w : World) (B : Nat) : Nat → TypeId → List Value → Prop
  | 0, _, _ => False
  | n + 1, t, cs => match P.underlying t with
    | some .bool => ∃ b, cs = [.bool b]
    | some (.int k) => ∃ z, cs = [.int k z] ∧ (Lit.int k z).wf = true
    | some .string => ∃ s : ByteArray, cs = [.string s] ∧ s.size ≤ maxLen
    | some (.struct fs) => cs.length = P.cellsOf t ∧ ∀ f ∈ fs.toList, Fits P w B n f.type ((cs.drop f.offset).take (P.cellsOf f.type))
    | some (.array len e) => cs.length = P.cellsOf t ∧ ∀ i, i < len → Fits P w B n e ((cs.drop (i * P.cellsOf e)).take (P.cellsOf e))
    | some (.slice e) => cs = [.slice none 0 0] ∨ ∃ a len cap, cs = [.slice (some a) len cap] ∧ len ≤ cap ∧ cap ≤ maxLen ∧ len ≤ B ∧
        ∀ i, i < len → ∃ ds, w.cells? 0 (a.add (i * P.cellsOf e)) (P.cellsOf e) = some ds ∧ Fits P w B n e ds
    | _ => True

theorem bulkAll_of_mem {H : Type} : ∀ {l : List (DataW H)} {d : DataW H}, d ∈ l → Rows.uptoBulk d ≤ Rows.uptoBulkAll l
  | x :: r, d, h => by
    unfold Rows.uptoBulkAll
    rcases List.mem_cons.1 h with rfl | h
    · omega
    · have := bulkAll_of_mem h; omega

theorem bulk_pos {H : Type} (d : DataW H) : 1 ≤ Rows.uptoBulk d := by
  unfold Rows.uptoBulk
  split <;> omega

theorem bulkAll_length {H : Type} : ∀ l : List (DataW H), l.length ≤ Rows.uptoBulkAll l
  | [] => Nat.zero_le _
  | x :: r => by
    unfold Rows.uptoBulkAll
    have h1 := bulk_pos x
    have h2 := bulkAll_length r
    simp only [List.length_cons]
    omega

section
variable {H : Type} {enc : TypeId × Value → H} {P : Program} {w : World} {spare : Nat → Bool} {held : Bool} {B : Nat}

theorem fits_of_trod : ∀ (fuel : Nat) (t : TypeId) (cs : List Value) (x : DataW H × List MemPlace), DataW.trod enc P w 0 spare held fuel t cs = some x →
    (maxLen ≤ B ∨ Rows.uptoBulk x.1 ≤ B) → Fits P w B fuel t cs
  | 0, _, _, _, h, _ => by simp [DataW.trod] at h
  | n + 1, t, cs, x, h, hb => by
    unfold Fits
    split
    · rename_i hu
      rw [DataW.trod_step] at h
      unfold DataW.trodStep at h
      rw [hu] at h
      split at h <;> simp_all
    · rename_i k hu
      rw [DataW.trod_step] at h
      unfold DataW.trodStep at h
      rw [hu] at h
      split at h <;> simp_all
    · rename_i hu
      rw [DataW.trod_step] at h
      unfold DataW.trodStep at h
      rw [hu] at h
      split at h <;> simp_all
    · rename_i fs hu
      obtain ⟨xs, m, hm, rfl, hl, hlen, hf⟩ := DataW.trod_struct hu h
      obtain rfl : n = m := by omega
      refine ⟨hl, fun f hfm => ?_⟩
      obtain ⟨i, hi⟩ := List.getElem?_of_mem hfm
      have hi' : fs[i]? = some f := by simpa using hi
      have hil : i < xs.length := by rw [hlen]; exact (Array.getElem?_eq_some_iff.1 hi').1
      have := hf i f hi'
      rw [List.getElem?_eq_getElem hil] at this
      refine fits_of_trod n _ _ _ this ?_
      rcases hb with hb | hb
      · exact .inl hb
      · right
        unfold Rows.uptoBulk at hb
        have := bulkAll_of_mem (List.mem_map.2 ⟨xs[i], List.getElem_mem hil, rfl⟩ : xs[i].1 ∈ xs.map (·.1))
        omega
    · rename_i len e hu
      obtain ⟨xs, m, hm, rfl, hl, hlen, hf⟩ := DataW.trod_array hu h
      obtain rfl : n = m := by omega
      refine ⟨hl, fun i hi => ?_⟩
      have hil : i < xs.length := by omega
      have := hf i hi
      rw [List.getElem?_eq_getElem hil] at this
      refine fits_of_trod n _ _ _ this ?_
      rcases hb with hb | hb
      · exact .inl hb
      · right
        unfold Rows.uptoBulk at hb
        have := bulkAll_of_mem (List.mem_map.2 ⟨xs[i], List.getElem_mem hil, rfl⟩ : xs[i].1 ∈ xs.map (·.1))
        omega
    · rename_i e hu
      rcases DataW.trod_slice hu h with ⟨rfl, _⟩ | ⟨a, len, cap, elems, rest, m, hm, rfl, rfl, _, hl, hmx, hlen, hel, _⟩
      · exact .inl rfl
      · obtain rfl : n = m := by omega
        refine .inr ⟨a, len, cap, rfl, hl, hmx, ?_, fun i hi => ?_⟩
        · rcases hb with hb | hb
          · omega
          · unfold Rows.uptoBulk at hb
            have := bulkAll_length (elems.map (·.1))
            simp only [List.length_map] at this
            omega
        · have hil : i < elems.length := by omega
          have := hel i hi
          rw [List.getElem?_eq_getElem hil] at this
          obtain ⟨ds, h1, h2⟩ := Option.bind_eq_some_iff.1 this
          refine ⟨ds, h1, fits_of_trod n _ _ _ h2 ?_⟩
          rcases hb with hb | hb
          · exact .inl hb
          · right
            unfold Rows.uptoBulk at hb
            have := bulkAll_of_mem (List.mem_map.2 ⟨elems[i], List.getElem_mem hil, rfl⟩ : elems[i].1 ∈ elems.map (·.1))
            omega
    · trivial

/-- An argument as it comes in. -/
theorem fits_of_arg {t : TypeId} {v : Value} {d : DataW H} {p : List MemPlace} (h : DataW.Trod enc P w 0 spare held t v d p) (hb : maxLen ≤ B ∨ Rows.uptoBulk d ≤ B) : ∃ n, Fits P w B n t v.cells.toList := by
  obtain ⟨fuel, hf⟩ := h
  exact ⟨fuel, fits_of_trod fuel t _ _ hf hb⟩
end

theorem okWide_array {P : Program} {w : World} {r : Reach} {base : Nat} {t : TypeId} {v : Value} {n : Nat} {e : TypeId} (ht : P.underlying t = some (.array n e)) (h : Value.okWide P w r base t v) : ∃ cs, v = .agg cs := by
  simp only [Value.okWide, ht] at h
  obtain ⟨cs, h1, _⟩ := h
  exact ⟨cs, h1⟩

section
variable {P : Program} {w : World} {B n : Nat} {t e : TypeId} {cs : List Value}

theorem Fits.int {k : IntKind} (h : Fits P w B n t cs) (ht : P.underlying t = some (.int k)) : ∃ z, cs = [.int k z] ∧ (Lit.int k z).wf = true := by
  cases n with
  | zero => exact h.elim
  | succ n => unfold Fits at h; rw [ht] at h; exact h

theorem Fits.bool (h : Fits P w B n t cs) (ht : P.underlying t = some .bool) : ∃ b, cs = [.bool b] := by
  cases n with
  | zero => exact h.elim
  | succ n => unfold Fits at h; rw [ht] at h; exact h

theorem Fits.struct {fs : Array Field} (h : Fits P w B n t cs) (ht : P.underlying t = some (.struct fs)) : ∃ m, cs.length = P.cellsOf t ∧ ∀ f ∈ fs.toList, Fits P w B m f.type ((cs.drop f.offset).take (P.cellsOf f.type)) := by
  cases n with
  | zero => exact h.elim
  | succ n => unfold Fits at h; rw [ht] at h; exact ⟨n, h⟩

theorem Fits.array {len : Nat} (h : Fits P w B n t cs) (ht : P.underlying t = some (.array len e)) : ∃ m, cs.length = P.cellsOf t ∧ ∀ i, i < len → Fits P w B m e ((cs.drop (i * P.cellsOf e)).take (P.cellsOf e)) := by
  cases n with
  | zero => exact h.elim
  | succ n => unfold Fits at h; rw [ht] at h; exact ⟨n, h⟩

theorem Fits.slice {a : Option Addr} {len cap : Nat} (h : Fits P w B n t [.slice a len cap]) (ht : P.underlying t = some (.slice e)) :
    (a = none ∧ len = 0 ∧ cap = 0) ∨ ∃ b m, a = some b ∧ len ≤ cap ∧ cap ≤ maxLen ∧ len ≤ B ∧ ∀ i, i < len → ∃ ds, w.cells? 0 (b.add (i * P.cellsOf e)) (P.cellsOf e) = some ds ∧ Fits P w B m e ds := by
  cases n with
  | zero => exact h.elim
  | succ n =>
    unfold Fits at h
    rw [ht] at h
    rcases h with h | ⟨b, l, c, h, h1, h2, h3, h4⟩
    · simp at h; exact .inl h
    · simp at h
      obtain ⟨rfl, rfl, rfl⟩ := h
      exact .inr ⟨b, n, rfl, h1, h2, h3, h4⟩
end

/-- The elements of a slice that came in, cell by cell. -/
theorem Fits.rows {P : Program} {w : World} {B n : Nat} {t e : TypeId} {a : Option Addr} {len cap : Nat} (h : Fits P w B n t [.slice a len cap]) (ht : P.underlying t = some (.slice e)) (c : Nat) (hc : P.cellsOf e = c) (h0 : 0 < c) :
    len = 0 ∨ ∃ b off m, a = some ⟨b, off, none⟩ ∧ 0 < len ∧ len ≤ cap ∧ cap ≤ maxLen ∧ len ≤ B ∧ b < w.heap.size ∧
      ∀ i, i < len → ∃ ds : List Value, ds.length = c ∧ (∀ j, j < c → w.cell? ⟨b, off + i * c + j, none⟩ = ds[j]?) ∧ Fits P w B m e ds := by
  rcases h.slice ht with ⟨_, h1, _⟩ | ⟨a, m, rfl, h1, h2, h3, h4⟩
  · exact .inl h1
  · by_cases hl : len = 0
    · exact .inl hl
    · right
      rw [hc] at h4
      have key : a.spot = none ∧ a.block < w.heap.size := by
        obtain ⟨ds, hd, _⟩ := h4 0 (by omega)
        obtain ⟨_, hlen, hcell⟩ := World.cells?_some hd
        have h00 := hcell 0 (by omega)
        rw [List.getElem?_eq_getElem (by omega)] at h00
        simp only [Nat.zero_mul, Addr.add, if_true] at h00
        refine ⟨?_, World.block_lt_of_cell? w a h00⟩
        unfold World.cell? at h00
        cases hs : a.spot with
        | none => rfl
        | some q =>
          split at h00
          · simp [hs] at h00
          · simp at h00
      obtain ⟨b, off, sp⟩ := a
      obtain ⟨hsp, hlt⟩ := key
      simp only at hsp hlt
      subst hsp
      refine ⟨b, off, m, rfl, by omega, h1, h2, h3, hlt, fun i hi => ?_⟩
      obtain ⟨ds, hd, hf⟩ := h4 i hi
      obtain ⟨_, hlen, hcell⟩ := World.cells?_some hd
      refine ⟨ds, hlen, fun j hj => ?_, hf⟩
      have := hcell j hj
      rw [Addr.add_lit, Addr.add_lit] at this
      exact this

theorem Fits.ints {P : Program} {w : World} {B n : Nat} {t e : TypeId} {k : IntKind} {a : Option Addr} {len cap : Nat} (h : Fits P w B n t [.slice a len cap]) (ht : P.underlying t = some (.slice e)) (he : P.underlying e = some (.int k)) (hc : P.cellsOf e = 1) :
    len = 0 ∨ ∃ b off, a = some ⟨b, off, none⟩ ∧ 0 < len ∧ len ≤ cap ∧ cap ≤ maxLen ∧ len ≤ B ∧ b < w.heap.size ∧ ∃ z : Nat → Int, ∀ i, i < len → w.cell? ⟨b, off + i, none⟩ = some (.int k (z i)) ∧ (Lit.int k (z i)).wf = true := by
  rcases h.rows ht 1 hc (by omega) with h0 | ⟨b, off, m, rfl, h0, h1, h2, h3, h4, h5⟩
  · exact .inl h0
  · right
    have each : ∀ i, ∃ z, i < len → w.cell? ⟨b, off + i, none⟩ = some (.int k z) ∧ (Lit.int k z).wf = true := by
      intro i
      by_cases hi : i < len
      · obtain ⟨ds, hd, hcell, hf⟩ := h5 i hi
        obtain ⟨z, rfl, hz⟩ := hf.int he
        have := hcell 0 (by omega)
        simp only [Nat.mul_one, Nat.add_zero, List.getElem?_cons_zero] at this
        exact ⟨z, fun _ => ⟨this, hz⟩⟩
      · exact ⟨0, fun h => absurd h hi⟩
    exact ⟨b, off, rfl, h0, h1, h2, h3, h4, fun i => (each i).choose, fun i hi => (each i).choose_spec hi⟩

theorem wf_i64 {z : Int} (h : (Lit.int .i64 z).wf = true) : -9223372036854775808 ≤ z ∧ z ≤ 9223372036854775807 := by simp only [Lit.wf, IntKind.min, IntKind.max, IntKind.signed, IntKind.bits, Bool.and_eq_true, decide_eq_true_eq] at h; simp at h; exact h
theorem wf_u32 {z : Int} (h : (Lit.int .u32 z).wf = true) : 0 ≤ z ∧ z ≤ 4294967295 := by simp only [Lit.wf, IntKind.min, IntKind.max, IntKind.signed, IntKind.bits, Bool.and_eq_true] at h; simp at h; exact h
theorem wf_u8 {z : Int} (h : (Lit.int .u8 z).wf = true) : 0 ≤ z ∧ z ≤ 255 := by simp only [Lit.wf, IntKind.min, IntKind.max, IntKind.signed, IntKind.bits, Bool.and_eq_true] at h; simp at h; exact h
theorem wf_u64 {z : Int} (h : (Lit.int .u64 z).wf = true) : 0 ≤ z ∧ z ≤ 18446744073709551615 := by simp only [Lit.wf, IntKind.min, IntKind.max, IntKind.signed, IntKind.bits, Bool.and_eq_true] at h; simp at h; exact h

end Go.Proofs.Ytgeakpeaohggoaa
