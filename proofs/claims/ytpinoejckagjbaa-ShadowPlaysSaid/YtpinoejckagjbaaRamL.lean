/- Bytes laid into a memory's block: laws on lists, and the law of 'copy' into such a block. -/
import Derived.Test.YtpinoejckagjbaaRam2
import Derived.Laws.CopyOwn
namespace Go.Proofs.Ytpinoejckagjbaa
open Go.RowKit Go.Mum

/-- Bytes laid at an address, one behind the other. -/
def putAt (ks : List Nat) (L : List Int) (a : Nat) : List Int → List Int
  | [] => L
  | x :: M => putAt ks (L.set (pl ks a) x) (a + 1) M

theorem putAt_append (ks : List Nat) : ∀ (M N L : List Int) (a : Nat), putAt ks L a (M ++ N) = putAt ks (putAt ks L a M) (a + M.length) N
  | [], N, L, a => by simp [putAt]
  | x :: M, N, L, a => by
    rw [List.cons_append, putAt, putAt, putAt_append ks M N, List.length_cons, show a + 1 + M.length = a + (M.length + 1) by omega]

theorem putAt_length (ks : List Nat) : ∀ (M L : List Int) (a : Nat), (putAt ks L a M).length = L.length
  | [], L, a => rfl
  | x :: M, L, a => by rw [putAt, putAt_length ks M, List.length_set]

theorem putAt_bytes (ks : List Nat) : ∀ (M L : List Int) (a : Nat), IsBytes L → IsBytes M → IsBytes (putAt ks L a M)
  | [], L, a, hL, _ => hL
  | x :: M, L, a, hL, hM => by
    rw [putAt]
    refine putAt_bytes ks M _ _ ?_ (fun y hy => hM y (by simp [hy]))
    intro y hy
    rcases List.mem_or_eq_of_mem_set hy with hy | rfl
    · exact hL y hy
    · exact hM y (by simp)

theorem splice_nil (L : List Int) (p : Nat) : splice L p [] = L := by simp [splice]

theorem splice_cons (L : List Int) (p : Nat) (x : Int) (N : List Int) (h : p < L.length) : splice (L.set p x) (p + 1) N = splice L p (x :: N) := by
  unfold splice
  rw [List.length_cons, List.take_set, List.drop_set, if_pos (by omega), show p + 1 + N.length = p + (N.length + 1) by omega]
  have : (List.take (p + 1) L).set p x = List.take p L ++ [x] := by
    rw [List.take_add_one, List.set_append_right _ _ (by simp; omega)]
    simp [List.getElem?_eq_getElem h, Nat.min_eq_left (Nat.le_of_lt h)]
  rw [this]
  simp

/-- Within a frame they lie side by side. -/
theorem putAt_frame (ks : List Nat) : ∀ (N L : List Int) (a : Nat), a % 64 + N.length ≤ 64 → pl ks a + N.length ≤ L.length → putAt ks L a N = splice L (pl ks a) N
  | [], L, a, _, _ => by rw [splice_nil]; rfl
  | x :: N, L, a, h, hl => by
    rw [List.length_cons] at h hl
    rw [putAt, ← splice_cons L _ x N (by omega)]
    by_cases h0 : N = []
    · subst h0; rw [splice_nil]; rfl
    · have hp : 0 < N.length := List.length_pos_iff.2 h0
      have e : pl ks (a + 1) = pl ks a + 1 := by unfold pl; rw [show (a + 1) / 64 = a / 64 by omega]; omega
      rw [putAt_frame ks N _ (a + 1) (by omega) (by rw [e, List.length_set]; omega), e]

theorem u8s_splice (L : List Int) (p : Nat) (N : List Int) : u8s (splice L p N) = splice (u8s L) p (u8s N) := by
  simp [u8s, splice, List.map_take, List.map_drop]

theorem length_splice' (L : List Int) (p : Nat) (N : List Int) (h : p + N.length ≤ L.length) : (splice L p N).length = L.length := length_splice L p N h

theorem splice_bytes {L : List Int} {p : Nat} {N : List Int} (hL : IsBytes L) (hN : IsBytes N) : IsBytes (splice L p N) := by
  intro x hx
  unfold splice at hx
  rcases List.mem_append.1 hx with h | h
  · exact hL x (List.mem_of_mem_take h)
  · rcases List.mem_append.1 h with h | h
    · exact hN x h
    · exact hL x (List.mem_of_mem_drop h)

theorem keep_row {l : List Nat} {w x : World} (h : Keep l w x) {g : Nat} (hg : g ∈ l ∨ w.heap.size ≤ g) (cs : Array Value) : Keep l w (x.setRow g cs) :=
  ⟨h.os, h.tape, h.output, by simpa using h.size, fun k hk hn => by
    rw [setRow_other x g k cs (by rintro rfl; rcases hg with hg | hg; exact hn hg; omega)]
    exact h.block k hk hn⟩

section
variable {P : Program} {w : World} {ops : Array Oper} {rest : List Oper} {o : Oper} {act : Act} {Q : Exit → Act → World → Prop}

/-- 'copy(..)' of bytes into a block that is known whole. -/
theorem wpList_copy_row (hgd : o.guard = none) (d s : Operand) (dT sT : TypeId) (ho : o.op = .call { callee := .builtin .copy, args := #[d, s], argTypes := #[dT, sT] })
    (e : TypeId) (hu : P.underlying dT = some (.slice e)) (hsz : (P.info? e).map (·.size) = some 1) (g p dl dc m sc : Nat) (src : Option Addr)
    (hd : act.eval d = .slice (some ⟨g, p, none⟩) dl dc) (hs : act.eval s = .slice src m sc) (M : List Int) (hm : m = M.length) (hrow : Row w src sc M) (L : List Int) (t : TypeId)
    (hg : w.heap[g]? = some (.cells (u8s L).toArray t (0, 0))) (hfit : p + dl ≤ L.length) (q : Nat) (hq : q = (M.take dl).length)
    (h : ∀ w', w'.heap[g]? = some (.cells (u8s (splice L p (M.take dl))).toArray t (0, 0)) → Keep [g] w w' → wpList P ops Q rest (act.put o.dst (goInt (q : Nat))) w') :
    wpList P ops Q (o :: rest) act w := by
  subst hm
  subst hq
  by_cases h0 : (M.take dl) = []
  · have hz : M.length.min dl = 0 := by
      have := congrArg List.length h0
      rw [List.length_take, List.length_nil, Nat.min_comm] at this
      exact this
    refine wpList_copy_nothing hgd d s dT sT ho e hu hsz _ _ dl dc _ sc hd hs hz ?_
    have := h w (by rw [h0, splice_nil]; exact hg) (Keep.refl _ _)
    rw [h0] at this
    exact this
  · have hpos : 0 < (M.take dl).length := List.length_pos_iff.2 h0
    obtain ⟨b, off, rfl⟩ := hrow.some_of (by rw [List.length_take] at hpos; omega)
    have hcell : ∀ i, i < M.length → w.cell? ⟨b, off + i, none⟩ = some (.int .u8 (M.getD i 0)) := by
      rcases hrow.at' with ⟨hh, _⟩ | ⟨rfl, _⟩ | ⟨b', off', e', hc⟩
      · cases hh
      · simp at hpos
      · cases e'; exact hc
    have hlen : (u8s (M.take dl)).length = (M.take dl).length := u8s_length _
    refine wpList_copy_own hgd d s dT sT ho e hu hsz g p dl dc ⟨b, off, none⟩ M.length sc hd hs (u8s L).toArray t hg (u8s (M.take dl)) (by rw [hlen, List.length_take, Nat.min_comm]) ?_ ?_ ?_ ?_
    · intro j v hv
      have hj : j < (M.take dl).length := by
        rw [← hlen]
        exact (List.getElem?_eq_some_iff.1 hv).1
      rw [Addr.add_lit, hcell j (by rw [List.length_take] at hj; omega), ← hv]
      simp only [u8s, List.getElem?_map]
      rw [List.length_take] at hj
      rw [List.getElem?_take_of_lt (by omega), List.getElem?_eq_getElem (show j < M.length by omega)]
      simp [List.getD, List.getElem?_eq_getElem (show j < M.length by omega)]
    · rw [hlen, List.length_take]; simp [u8s]; omega
    · intro v hv
      obtain ⟨z, _, rfl⟩ := List.mem_map.1 hv
      simp [Value.oneCell']
    · rw [hlen]
      have he : ((u8s L).toArray.toList.take p ++ (u8s (M.take dl) ++ (u8s L).toArray.toList.drop (p + (M.take dl).length))) = u8s (splice L p (M.take dl)) := by
        rw [u8s_splice, splice, hlen]
      rw [he]
      exact h _ (setRow_heap w g _ _ t _ hg) (keep_row (Keep.refl _ _) (.inl (by simp)) _)
end

theorem RamAt.put {w x : World} {r fb g : Nat} {ks : List Nat} {L L' : List Int} (h : RamAt w r fb g ks L) (hk : Keep [g] w x) (hx : x.heap[g]? = some (.cells (u8s L').toArray 5 (0, 0))) (hl : L'.length = L.length) (hb : IsBytes L') : RamAt x r fb g ks L' := by
  have hne := h.ne
  obtain ⟨⟨cap, a1, a2⟩, ⟨cs, b1, b2⟩, c, d1, d2, d3⟩ := h
  exact ⟨⟨cap, hk.heap a1 (by simpa using hne.2.1), a2⟩, ⟨cs, hk.heap b1 (by simpa using hne.2.2), b2⟩, hx, hb, by rw [hl]; exact d2, d3⟩
end Go.Proofs.Ytpinoejckagjbaa
