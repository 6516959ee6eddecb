/- Contracts of the functions that the law reaches, walked, and the plain laws on them (several texts in one). -/
import Derived.Outline
import Derived.Test.YtpinoejckagjbaaM22
import Derived.Test.YtpinoejckagjbaaM23
import Derived.Test.YtpinoejckagjbaaM13

/- Both shadows at the start; a frame's bytes. -/
namespace Go.Proofs.Ytpinoejckagjbaa
open Go.RowKit Go.Mum
set_option linter.unusedVariables false
set_option linter.unusedSimpArgs false
set_option maxRecDepth 100000

theorem SAt.ltAll {x : World} {s r fb g p pm most : Nat} {T : Nat → Tab} {L : List Int} {c : Nat} (h : SAt x s r fb g p pm most T L c) : s < x.heap.size ∧ r < x.heap.size ∧ fb < x.heap.size ∧ g < x.heap.size ∧ p < x.heap.size ∧ pm < x.heap.size := by
  obtain ⟨cap, hh, _⟩ := h.ram.head
  obtain ⟨cs, hr, _⟩ := h.ram.rows
  obtain ⟨lent, tk, sh, hp, _⟩ := h.pool
  obtain ⟨h1, es, cl, h2, _⟩ := hp
  exact ⟨ArrAt.lt h.sh, lt_of_heap hh, lt_of_heap hr, lt_of_heap h.ram.data, lt_of_heap h1, lt_of_heap h2⟩

theorem two_start {x : World} {B s r fb g p pm most : Nat} {L : List Int} (h : SAt x s r fb g p pm most (fun _ => tab0) L 0) (hB : B ≤ s ∧ B ≤ g ∧ B ≤ p ∧ B ≤ pm) :
    Two (x.alloc (.cells #[.int .i64 40, .slice none 0 0, .slice none 0 0, .int .i64 most] 46)) B s r fb g p pm x.heap.size most (fun _ => tab0) L [] [] 0 := by
  refine ⟨h.keep0 ((Keep.refl [] x).alloc _), ⟨.slice none 0 0, .slice none 0 0, heap_alloc_same x _, World.ownsRow_nil _ _ _ _, World.ownsRow_nil _ _ _ _⟩, ⟨hB, h.ltAll⟩, by simp, by simp⟩

theorem rest_frame {most : Nat} {T : Nat → Tab} {L : List Int} (h : ShInv most T L) {k : Nat} (hk : k < 40) (h8 : k ≠ 8) (h9 : k ≠ 9) (h20 : ¬ (20 ≤ k ∧ k < 20 + most)) : frameOf (List.range 40) L k = List.replicate 64 165 := by
  have hl := h.len
  have hg : (List.range 40).getD k 0 = k := by
    rw [List.getD_eq_getElem?_getD, List.getElem?_range hk]; rfl
  unfold frameOf
  rw [hg]
  apply List.ext_getElem
  · rw [List.length_take, List.length_drop, List.length_replicate]; omega
  · intro i h1 h2
    rw [List.length_replicate] at h2
    rw [List.getElem_take, List.getElem_drop, List.getElem_replicate]
    have := h.rest (64 * k + i) (by omega) (by omega) (by omega) (by omega)
    rw [List.getD_eq_getElem?_getD, List.getElem?_eq_getElem (by omega)] at this
    exact this
end Go.Proofs.Ytpinoejckagjbaa

/- The document's lists and the tables: the plain law. -/
namespace Go.Proofs.Ytpinoejckagjbaa
open Go.RowKit Go.Mum
set_option linter.unusedVariables false
set_option linter.unusedSimpArgs false
set_option maxRecDepth 100000

theorem nodup_le : ∀ (l m : List Nat), l.Nodup → (∀ x ∈ l, x ∈ m) → l.length ≤ m.length
  | [], _, _, _ => Nat.zero_le _
  | x :: l, m, hn, hs => by
    rw [List.nodup_cons] at hn
    have hx := hs x (by simp)
    have ih := nodup_le l (m.erase x) hn.2 (fun y hy => (List.mem_erase_of_ne (by rintro rfl; exact hn.1 hy)).2 (hs y (by simp [hy])))
    rw [List.length_erase_of_mem hx] at ih
    have := List.length_pos_of_mem hx
    simp only [List.length_cons]
    omega

theorem nodup_le_int : ∀ (l m : List Int), l.Nodup → (∀ x ∈ l, x ∈ m) → l.length ≤ m.length
  | [], _, _, _ => Nat.zero_le _
  | x :: l, m, hn, hs => by
    rw [List.nodup_cons] at hn
    have hx := hs x (by simp)
    have ih := nodup_le_int l (m.erase x) hn.2 (fun y hy => (List.mem_erase_of_ne (by rintro rfl; exact hn.1 hy)).2 (hs y (by simp [hy])))
    rw [List.length_erase_of_mem hx] at ih
    have := List.length_pos_of_mem hx
    simp only [List.length_cons]
    omega

def pagesE (E : Nat → Nat) (m : Nat) : List Pg := (List.range m).filterMap fun i => if E i = 0 then none else some (64 * i, E i / 64, E i % 64)
def pgE (E : Nat → Nat) (m : Nat) : List Pg := if E m = 0 then [] else [(64 * m, E m / 64, E m % 64)]
def upd (E : Nat → Nat) (i e : Nat) : Nat → Nat := fun j => if j = i then e else E j

theorem pagesE_succ (E : Nat → Nat) (m : Nat) : pagesE E (m + 1) = pagesE E m ++ pgE E m := by
  unfold pagesE pgE
  rw [List.range_succ, List.filterMap_append]
  congr 1
  show (List.filterMap _ [m]) = _
  rw [List.filterMap_cons]
  by_cases h : E m = 0
  · simp [h]
  · simp [h]

theorem pagesE_mem {E : Nat → Nat} {m : Nat} {q : Pg} : q ∈ pagesE E m ↔ ∃ i, i < m ∧ E i ≠ 0 ∧ q = (64 * i, E i / 64, E i % 64) := by
  unfold pagesE
  rw [List.mem_filterMap]
  constructor
  · rintro ⟨i, hi, h⟩
    by_cases hz : E i = 0
    · simp [hz] at h
    · rw [if_neg hz] at h
      exact ⟨i, List.mem_range.1 hi, hz, (Option.some.inj h).symm⟩
  · rintro ⟨i, hi, hz, rfl⟩
    exact ⟨i, List.mem_range.2 hi, by rw [if_neg hz]⟩

theorem pagesE_congr {E E' : Nat → Nat} : ∀ {m : Nat}, (∀ i, i < m → E i = E' i) → pagesE E m = pagesE E' m
  | 0, _ => rfl
  | m + 1, h => by
    rw [pagesE_succ, pagesE_succ, pagesE_congr (fun i hi => h i (by omega))]
    unfold pgE
    rw [h m (by omega)]

theorem pagesE_off {E : Nat → Nat} {m v : Nat} (h : ∀ i, i < m → E i ≠ 0 → 64 * i ≠ v) : (pagesE E m).filter (fun q => decide (q.1 ≠ v)) = pagesE E m := by
  rw [List.filter_eq_self]
  intro q hq
  obtain ⟨i, hi, hz, rfl⟩ := pagesE_mem.1 hq
  exact decide_eq_true (h i hi hz)

theorem pagesE_drop (E : Nat → Nat) (i : Nat) : ∀ m, (pagesE E m).filter (fun q => decide (q.1 ≠ 64 * i)) = pagesE (upd E i 0) m
  | 0 => rfl
  | m + 1 => by
    rw [pagesE_succ, pagesE_succ, List.filter_append, pagesE_drop E i m]
    congr 1
    unfold pgE upd
    by_cases hm : m = i
    · subst hm
      rw [if_pos rfl, if_pos rfl]
      split <;> simp
    · rw [if_neg hm]
      split
      · rfl
      · simp; omega

theorem insP_behind {p r : Pg} (hr : p.1 < r.1) (L : List Pg) : insP p (L ++ [r]) = insP p L ++ [r] := by
  by_cases h : ∃ q ∈ L, p.1 < q.1
  · exact insP_laid h
  · have h' : ∀ q ∈ L, ¬ (p.1 < q.1) := fun q hq hh => h ⟨q, hq, hh⟩
    rw [insP_new hr h', insP_end h']

theorem pagesE_put (E : Nat → Nat) {i e : Nat} (he : e ≠ 0) : ∀ d, insP (64 * i, e / 64, e % 64) ((pagesE E (i + 1 + d)).filter (fun q => decide (q.1 ≠ 64 * i))) = pagesE (upd E i e) (i + 1 + d)
  | 0 => by
    show insP _ ((pagesE E (i + 1)).filter _) = pagesE _ (i + 1)
    have h1 : pagesE (upd E i e) i = pagesE E i := pagesE_congr (fun j hj => if_neg (by omega))
    have h2 : pgE (upd E i e) i = [(64 * i, e / 64, e % 64)] := by unfold pgE upd; rw [if_pos rfl, if_neg he]
    have h3 : (pagesE E (i + 1)).filter (fun q => decide (q.1 ≠ 64 * i)) = pagesE E i := by
      rw [pagesE_succ, List.filter_append, pagesE_off (fun j hj _ => by omega)]
      unfold pgE
      split <;> simp
    rw [h3, pagesE_succ, h1, h2]
    refine insP_end (fun q hq => ?_)
    obtain ⟨j, hj, _, rfl⟩ := pagesE_mem.1 hq
    show ¬ (64 * i < 64 * j)
    omega
  | d + 1 => by
    have ih := pagesE_put E he d (i := i)
    rw [show i + 1 + (d + 1) = i + 1 + d + 1 by omega, pagesE_succ, pagesE_succ, ← ih, List.filter_append]
    have h1 : pgE (upd E i e) (i + 1 + d) = pgE E (i + 1 + d) := by
      have : upd E i e (i + 1 + d) = E (i + 1 + d) := if_neg (by omega)
      unfold pgE; rw [this]
    rw [h1]
    unfold pgE
    by_cases hz : E (i + 1 + d) = 0
    · rw [if_pos hz]; simp
    · rw [if_neg hz]
      have h2 : ([(64 * (i + 1 + d), E (i + 1 + d) / 64, E (i + 1 + d) % 64)] : List Pg).filter (fun q => decide (q.1 ≠ 64 * i)) = [(64 * (i + 1 + d), E (i + 1 + d) / 64, E (i + 1 + d) % 64)] := by
        simp
        omega
      rw [h2]
      exact insP_behind (by show 64 * i < 64 * (i + 1 + d); omega) _

theorem plV_pages (E : Nat → Nat) (m : Nat) : plV E m = (pagesE E m).map (fun q => ((q.1 : Nat) : Int)) := by
  unfold plV pagesE
  rw [List.map_filterMap]
  congr 1
  funext i
  split <;> rfl

theorem tabE_set (T : Nat → Tab) {n k e : Nat} (hk : k < 16) : tabE (setTab T n (setEn (T n) k e)) = upd (tabE T) (16 * n + k) e := by
  funext j
  unfold tabE upd
  by_cases hj : j / 16 = n
  · rw [hj, setTab_same]
    show (if j % 16 = k then e else (T n).en (j % 16)) = _
    by_cases hk2 : j % 16 = k
    · rw [if_pos hk2, if_pos (by omega)]
    · rw [if_neg hk2, if_neg (by omega)]
      show _ = (T (j / 16)).en (j % 16)
      rw [hj]
  · rw [setTab_ne hj, if_neg (by omega)]

theorem tabE_lent {most : Nat} {T T1 : Nat → Tab} {L : List Int} {n : Nat} (hI : ShInv most T L) (hn : n < 32) (h : Lent T T1 n) : tabE T1 = tabE T := by
  rcases h with ⟨_, rfl⟩ | ⟨h0, f, rfl⟩
  · rfl
  · funext j
    unfold tabE
    by_cases hj : j / 16 = n
    · rw [hj, setTab_same, hI.off n hn h0]
    · rw [setTab_ne hj]

/-- The document's lists tell the tables. -/
structure Agree (T : Nat → Tab) (ps : List Pg) (ts : List Nat) : Prop where
  nd : ts.Nodup
  mem : ∀ n, n ∈ ts ↔ n < 32 ∧ (T n).th = true
  pg : ps = pagesE (tabE T) 512

theorem agree_start : Agree (fun _ => tab0) [] [] := ⟨List.nodup_nil, fun n => by simp [tab0], by
  have : ∀ m, pagesE (tabE fun _ => tab0) m = [] := by
    intro m
    induction m with
    | zero => rfl
    | succ m ih => rw [pagesE_succ, ih]; rfl
  exact (this 512).symm⟩

theorem Agree.le {most : Nat} {T : Nat → Tab} {L : List Int} {ps : List Pg} {ts : List Nat} (h : Agree T ps ts) (hI : ShInv most T L) : ts.length ≤ most := by
  have hnd : (ts.map fun n => (T n).fr).Nodup := by
    unfold List.Nodup
    rw [List.pairwise_map]
    refine List.Pairwise.imp_of_mem ?_ h.nd
    intro a b ha hb hne he
    have h1 := (h.mem a).1 ha
    have h2 := (h.mem b).1 hb
    exact hne (hI.inj a b h1.1 h2.1 h1.2 h2.2 he)
  have := nodup_le (ts.map fun n => (T n).fr) ((List.range most).map fun j => 20 + j) hnd (by
    intro x hx
    obtain ⟨n, hn, rfl⟩ := List.mem_map.1 hx
    have h1 := (h.mem n).1 hn
    have h2 := hI.frm n h1.1 h1.2
    exact List.mem_map.2 ⟨(T n).fr - 20, List.mem_range.2 (by omega), by omega⟩)
  simpa using this

theorem Agree.full {most : Nat} {T : Nat → Tab} {L : List Int} {ps : List Pg} {ts : List Nat} (h : Agree T ps ts) (hF : Full most T) : most ≤ ts.length := by
  have := nodup_le ((List.range most).map fun j => 20 + j) (ts.map fun n => (T n).fr) (by
    unfold List.Nodup
    rw [List.pairwise_map]
    refine List.Pairwise.imp_of_mem ?_ (List.nodup_range (n := most))
    intro a b _ _ hne he
    exact hne (by omega)) (by
    intro x hx
    obtain ⟨j, hj, rfl⟩ := List.mem_map.1 hx
    obtain ⟨m, hm, ht, hf⟩ := hF j (List.mem_range.1 hj)
    exact List.mem_map.2 ⟨m, (h.mem m).2 ⟨hm, ht⟩, hf⟩)
  simpa using this

theorem Agree.lent {most : Nat} {T : Nat → Tab} {L : List Int} {ps : List Pg} {ts : List Nat} {lent : List Int} (h : Agree T ps ts) (hI : ShInv most T L) (hnd : lent.Nodup) (hl : ∀ z, z ∈ lent ↔ ∃ n, n < 32 ∧ (T n).th = true ∧ z = ((T n).fr : Int)) : lent.length = ts.length := by
  have hnd2 : (ts.map fun n => ((T n).fr : Int)).Nodup := by
    unfold List.Nodup
    rw [List.pairwise_map]
    refine List.Pairwise.imp_of_mem ?_ h.nd
    intro a b ha hb hne he
    have h1 := (h.mem a).1 ha
    have h2 := (h.mem b).1 hb
    exact hne (hI.inj a b h1.1 h2.1 h1.2 h2.2 (by omega))
  have a1 := nodup_le_int lent (ts.map fun n => ((T n).fr : Int)) hnd (by
    intro x hx
    obtain ⟨n, h1, h2, rfl⟩ := (hl x).1 hx
    exact List.mem_map.2 ⟨n, (h.mem n).2 ⟨h1, h2⟩, rfl⟩)
  have a2 := nodup_le_int (ts.map fun n => ((T n).fr : Int)) lent hnd2 (by
    intro x hx
    obtain ⟨n, hn, rfl⟩ := List.mem_map.1 hx
    have h1 := (h.mem n).1 hn
    exact (hl _).2 ⟨n, h1.1, h1.2, rfl⟩)
  simp at a1 a2
  omega

theorem Agree.count {T : Nat → Tab} {ps : List Pg} {ts : List Nat} (h : Agree T ps ts) : ((List.range 32).filter fun n => (T n).th).length = ts.length := by
  have a1 := nodup_le ((List.range 32).filter fun n => (T n).th) ts (List.Nodup.sublist List.filter_sublist List.nodup_range) (by
    intro x hx
    obtain ⟨h1, h2⟩ := List.mem_filter.1 hx
    exact (h.mem x).2 ⟨List.mem_range.1 h1, h2⟩)
  have a2 := nodup_le ts ((List.range 32).filter fun n => (T n).th) h.nd (by
    intro x hx
    have h1 := (h.mem x).1 hx
    exact List.mem_filter.2 ⟨List.mem_range.2 h1.1, h1.2⟩)
  omega

theorem Agree.page {most : Nat} {T : Nat → Tab} {L : List Int} {ps : List Pg} {ts : List Nat} (h : Agree T ps ts) (hI : ShInv most T L) {q : Pg} (hq : q ∈ ps) :
    q.1 % 64 = 0 ∧ q.1 < 32768 ∧ q.2.1 < 40 ∧ q.2.2 < 16 ∧ leads T (q.1 + 5) = 64 * q.2.1 + q.2.2 ∧ leads T (q.1 + 5) ≠ 0 := by
  rw [h.pg] at hq
  obtain ⟨i, hi, hz, rfl⟩ := pagesE_mem.1 hq
  have hn : i / 16 < 32 := by omega
  have hg := hI.ent (i / 16) hn (i % 16) (by omega)
  have ht : (T (i / 16)).th = true := by
    by_cases ht : (T (i / 16)).th = true
    · exact ht
    · exact absurd (hI.off (i / 16) hn (by simpa using ht) (i % 16)) hz
  have hl : leads T (64 * i + 5) = tabE T i := by
    unfold leads tabE
    rw [show (64 * i + 5) / 1024 = i / 16 by omega, show (64 * i + 5) / 64 % 16 = i % 16 by omega, if_pos ⟨hn, ht⟩]
  refine ⟨by simp, by simp; omega, ?_, ?_, ?_, ?_⟩
  · show tabE T i / 64 < 40
    rcases hg with hg | ⟨f, b, h1, h2, h3, h4⟩
    · exact absurd hg hz
    · unfold tabE; omega
  · show tabE T i % 64 < 16
    rcases hg with hg | ⟨f, b, h1, h2, h3, h4⟩
    · exact absurd hg hz
    · unfold tabE; omega
  · rw [hl]
    show tabE T i = 64 * (tabE T i / 64) + tabE T i % 64
    omega
  · rw [hl]; exact hz

theorem Agree.look {most : Nat} {T : Nat → Tab} {L : List Int} {ps : List Pg} {ts : List Nat} (h : Agree T ps ts) (hI : ShInv most T L) (va : Nat) : (∃ q ∈ ps, q.1 = va - va % 64) ↔ leads T va ≠ 0 := by
  constructor
  · rintro ⟨q, hq, he⟩
    have hp := h.page hI hq
    have : leads T (q.1 + 5) = leads T va := by
      unfold leads
      rw [show (q.1 + 5) / 1024 = va / 1024 by omega, show (q.1 + 5) / 64 % 16 = va / 64 % 16 by omega]
    rw [← this]
    exact hp.2.2.2.2.2
  · intro hz
    unfold leads at hz
    split at hz
    · rename_i hc
      refine ⟨(64 * (va / 64), tabE T (va / 64) / 64, tabE T (va / 64) % 64), ?_, by show 64 * (va / 64) = _; omega⟩
      rw [h.pg, pagesE_mem]
      refine ⟨va / 64, by omega, ?_, rfl⟩
      unfold tabE
      rw [show va / 64 / 16 = va / 1024 by omega]
      exact hz
    · exact absurd rfl hz

theorem agree_put {most : Nat} {T T' : Nat → Tab} {L L' : List Int} {ps ps' : List Pg} {ts ts' : List Nat} {va bb : Nat} {frame : Int} {b1 b2 : Bool} (h : Agree T ps ts) (hI : ShInv most T L) (hI' : ShInv most T' L')
    (hp : PutR most T va frame bb b1 T') (hr : RPutR most ps ts va frame bb b2 ps' ts') : (b1 == b2) = true ∧ Agree T' ps' ts' := by
  rcases hp with ⟨h1, rfl, rfl⟩ | ⟨h1, h2, h3, rfl, T1, hl, rfl⟩ | ⟨h1, h2, h3, h4, h5, rfl, rfl⟩
  · rcases hr with ⟨_, rfl, rfl, rfl⟩ | ⟨g1, g2, g3, g4, g5, rfl, rfl, rfl⟩ | ⟨g1, g2, g3, g4, rfl, rfl, rfl⟩
    · exact ⟨rfl, h⟩
    · omega
    · omega
  · have hE := tabE_lent hI h1 hl
    have hmem : ∀ m, (m < 32 ∧ (setTab T1 (va / 1024) (setEn (T1 (va / 1024)) (va / 64 % 16) (entryOf frame.toNat bb)) m).th = true) ↔ (m ∈ ts ∨ m = va / 1024) := by
      intro m
      by_cases hm : m = va / 1024
      · rw [hm, setTab_same]
        exact ⟨fun _ => .inr rfl, fun _ => ⟨h1, hl.th⟩⟩
      · rw [setTab_ne hm, h.mem m]
        have : T1 m = T m := by
          rcases hl with ⟨_, rfl⟩ | ⟨_, f, rfl⟩
          · rfl
          · exact setTab_ne hm
        rw [this]
        exact ⟨.inl, fun q => q.resolve_right hm⟩
    rcases hr with ⟨g1, rfl, rfl, rfl⟩ | ⟨g1, g2, g3, g4, g5, rfl, rfl, rfl⟩ | ⟨g1, g2, g3, g4, rfl, rfl, rfl⟩
    · omega
    · exfalso
      have hA : Agree (setTab T1 (va / 1024) (setEn (T1 (va / 1024)) (va / 64 % 16) (entryOf frame.toNat bb))) (pagesE (tabE (setTab T1 (va / 1024) (setEn (T1 (va / 1024)) (va / 64 % 16) (entryOf frame.toNat bb)))) 512) (ts' ++ [va / 1024]) := by
        refine ⟨?_, fun m => ?_, rfl⟩
        · rw [List.nodup_append]
          exact ⟨h.nd, by simp, by intro a ha b hb; simp at hb; rintro rfl; rw [hb] at ha; exact g4 ha⟩
        · rw [hmem m]; simp
      have := hA.le hI'
      simp at this
      omega
    · refine ⟨rfl, ?_, ?_, ?_⟩
      · split
        · exact h.nd
        · rename_i hni
          rw [List.nodup_append]
          exact ⟨h.nd, by simp, by intro a ha b hb; simp at hb; rintro rfl; rw [hb] at ha; exact hni ha⟩
      · intro m
        rw [hmem m]
        split
        · rename_i hin
          exact ⟨.inl, fun q => q.elim id (fun e => by rw [e]; exact hin)⟩
        · simp
      · rw [h.pg, tabE_set _ (by omega), hE, show 16 * (va / 1024) + va / 64 % 16 = va / 64 by omega]
        have he : entryOf frame.toNat bb ≠ 0 := by unfold entryOf; omega
        have := pagesE_put (tabE T) (i := va / 64) he (512 - (va / 64 + 1))
        rw [show va / 64 + 1 + (512 - (va / 64 + 1)) = 512 by omega] at this
        rw [← this, show va - va % 64 = 64 * (va / 64) by omega]
        congr 2
        unfold entryOf
        refine Prod.ext ?_ ?_
        · show frame.toNat = _
          omega
        · show bb % 16 / 2 * 2 + 1 = _
          omega
  · have hni : va / 1024 ∉ ts := fun hin => by rw [((h.mem _).1 hin).2] at h4; cases h4
    rcases hr with ⟨g1, rfl, rfl, rfl⟩ | ⟨g1, g2, g3, g4, g5, rfl, rfl, rfl⟩ | ⟨g1, g2, g3, g4, rfl, rfl, rfl⟩
    · omega
    · exact ⟨rfl, h⟩
    · exfalso
      have := h.full (L := L) h5
      rcases g4 with g4 | g4
      · exact hni g4
      · omega

theorem agree_drop {most : Nat} {T T' : Nat → Tab} {L : List Int} {ps : List Pg} {ts : List Nat} {va : Nat} (h : Agree T ps ts) (hI : ShInv most T L) (hd : DropR T va T') : Agree T' (ps.filter (fun q => decide (q.1 ≠ va - va % 64))) ts := by
  have hva : va - va % 64 = 64 * (va / 64) := by omega
  rcases hd with ⟨h1, rfl⟩ | ⟨h1, h2, rfl⟩
  · refine ⟨h.nd, h.mem, ?_⟩
    rw [h.pg]
    refine pagesE_off (fun i hi hz he => ?_)
    have hi2 : i = va / 64 := by omega
    have hn : va / 1024 < 32 := by omega
    refine hz ?_
    unfold tabE
    rw [show i / 16 = va / 1024 by omega]
    refine hI.off _ hn ?_ _
    by_cases ht : (T' (va / 1024)).th = true
    · exact absurd ⟨hn, ht⟩ h1
    · simpa using ht
  · refine ⟨h.nd, fun m => ?_, ?_⟩
    · rw [h.mem m]
      by_cases hm : m = va / 1024
      · rw [hm, setTab_same]; rfl
      · rw [setTab_ne hm]
    · rw [h.pg, hva, pagesE_drop, tabE_set _ (by omega), show 16 * (va / 1024) + va / 64 % 16 = va / 64 by omega]

theorem agree_step {most : Nat} {kd : Int} {va bb : Nat} {frame : Int} {T T' : Nat → Tab} {L L' : List Int} {ps ps' : List Pg} {ts ts' : List Nat} {q : Bool} (h : Agree T ps ts) (hI : ShInv most T L) (hI' : ShInv most T' L')
    (hs : StepR most kd va frame bb T ps ts q T' ps' ts') : q = true ∧ Agree T' ps' ts' := by
  rcases hs with ⟨_, b1, b2, hp, hr, rfl⟩ | ⟨_, rfl, hd, rfl, rfl⟩ | ⟨_, rfl, rfl, rfl, rfl⟩ | ⟨_, _, _, rfl, rfl, rfl, rfl⟩
  · exact agree_put h hI hI' hp hr
  · exact ⟨rfl, agree_drop h hI hd⟩
  · exact ⟨rfl, agree_start⟩
  · exact ⟨rfl, h⟩
end Go.Proofs.Ytpinoejckagjbaa
