/- Contracts of the functions that the law reaches, walked, and the plain laws on them (several texts in one). -/
import Derived.Lib.EndianBits
import Derived.Deep.QuietTactic
import Derived.BigQuiet
import Derived.Laws.CopyOwn
import Derived.Outline
import Derived.Test.YtgeakpeaohggoaaM05

/- Words and frames of a memory. -/
namespace Go.Proofs.Ytgeakpeaohggoaa
open Go.RowKit Go.Mum

/-- Four bytes as a number. -/
def word4 (L : List Int) (p : Nat) : Int := L.getD p 0 + L.getD (p + 1) 0 * 256 + L.getD (p + 2) 0 * 65536 + L.getD (p + 3) 0 * 16777216

theorem info_u8 : (Try.prog.info? 5).map (fun i => (i.zero, i.size, i.bytes)) = some (some (.int .u8 0), 1, 1) := by kernel_rfl

theorem empty_u8 (w : World) : (Instr.buildSlice 22 0 #[]).run Try.prog w = .ok (.slice (some ⟨w.heap.size, 0, none⟩) 0 0) (w.alloc (.cells #[] 5)) := by
  obtain ⟨i0, hi, hz0, hz1, hz2⟩ := info_parts info_u8
  simp [Instr.buildSlice, run_underlying Try.underlying22, sizeOf, typeInfo, hi, Instr.fill, newRow, show Array.range 0 = #[] from rfl]

/-- The bytes of a frame. -/
def frameOf (ks : List Nat) (L : List Int) (k : Nat) : List Int := (L.drop (64 * ks.getD k 0)).take 64

/-- What a call that hands back a row of its own leaves. -/
def OwnPost (M : List Int) (w : World) (e : Ending) (w' : World) : Prop := ∃ v, e = .returned v ∧ Go.Mum.Own w' w.heap.size 5 v M ∧ Keep [] w w'

theorem RamAt.frame {w : World} {r fb g : Nat} {ks : List Nat} {L : List Int} (h : RamAt w r fb g ks L) {k : Nat} (hk : k < ks.length) :
    Row w (some ⟨g, 64 * ks.getD k 0, none⟩) 64 (frameOf ks L k) ∧ (frameOf ks L k).length = 64 := by
  have hf := h.fits k hk
  have hl : (frameOf ks L k).length = 64 := by unfold frameOf; rw [List.length_take, List.length_drop]; omega
  refine ⟨⟨fun x hx => h.bytes x (List.mem_of_mem_drop (List.mem_of_mem_take hx)), ⟨by omega, by unfold maxLen; omega⟩, .inr (.inr ⟨g, _, rfl, fun i hi => ?_⟩)⟩, hl⟩
  rw [hl] at hi
  rw [h.cell (by omega)]
  congr 2
  unfold frameOf
  simp [List.getD, List.getElem?_take_of_lt hi]

set_option maxHeartbeats 1000000 in
theorem rframe_no {w : World} {v : Value} {n : Nat} (h : Sz w v n) (k : Int) (h1 : -9223372036854775808 ≤ k) (h2 : k ≤ 9223372036854775807) (hk : k < 0 ∨ (n : Int) ≤ k) :
    Calls Try.prog 24 #[v, .int .i64 k] w fun e w' => e = .returned (.slice none 0 0) ∧ w = w' := by
  have C := Lib.hid (rsize_any h)
  have hn := h.le
  have hd : 64 * (n : Int) / 64 = (n : Int) := by omega
  clear h
  by_cases h0 : k < 0
  · clear hk
    go_enter Try.func24, Try.ntmps24
    go_wp2_with fail
    go_ret
    exact ⟨rfl, rfl⟩
  · have hk' : (n : Int) ≤ k := by omega
    clear hk
    go_enter Try.func24, Try.ntmps24
    go_wp2_with fail
    refine C.out.mono ?_
    rintro e w' ⟨rfl, rfl⟩
    go_wp2_with fail
    go_ret
    exact ⟨rfl, rfl⟩

set_option maxHeartbeats 1000000 in
theorem rframe_yes {w : World} {r fb g : Nat} {ks : List Nat} {L : List Int} (h : RamAt w r fb g ks L) (k : Nat) (hk : k < ks.length) :
    Calls Try.prog 24 #[.pointer (some ⟨r, 0, none⟩), .int .i64 k] w (OwnPost (frameOf ks L k) w) := by
  have C := Lib.hid (rsize_any h.sz)
  have hn := h.size
  obtain ⟨cap, hc⟩ := h.hcell
  have hrow := h.row hk
  have HF := Lib.hid (h.frame hk)
  have hd : 64 * (ks.length : Int) / 64 = (ks.length : Int) := by omega
  have he := empty_u8
  have hc' := ((Keep.refl [] w).alloc (.cells #[] 5)).cell hc (by simp)
  have hrow' := ((Keep.refl [] w).alloc (.cells #[] 5)).cell hrow (by simp)
  clear h
  generalize frameOf ks L k = M at *
  generalize ks.getD k 0 = f at *
  go_enter Try.func24, Try.ntmps24
  go_wp2_with fail
  refine C.out.mono ?_
  rintro e w' ⟨rfl, rfl⟩
  go_wp2_with (at_builtin; refine wpList_append_row rfl _ _ 22 rfl w.heap.size 5 Try.underlying22 info_u8 (.slice (some ⟨w.heap.size, 0, none⟩) 0 0) [] M rfl (Go.Mum.Own.empty (heap_alloc_at _ rfl) (Nat.le_refl _)) (some ⟨g, 64 * f, none⟩) 64 64 HF.out.2.symm rfl (HF.out.1.keep0 ((Keep.refl [] w).alloc _)) (by rw [HF.out.2]; simp) (by simp) ?_; intro v1 w1 ho hg; have HG : Hid (OwnPost M w (.returned v1) w1) := Lib.hid ⟨v1, rfl, by simpa using ho, ((Keep.refl [] w).alloc _).grown hg (by simp [Value.ownBlock])⟩; clear ho hg)
  go_ret
  exact HG.out
end Go.Proofs.Ytgeakpeaohggoaa

/- Bytes laid into a memory's block: laws on lists, and the law of 'copy' into such a block. -/
namespace Go.Proofs.Ytgeakpeaohggoaa
open Go.RowKit Go.Mum

/-- Bytes laid at an address, one behind the other. -/
def putAt (ks : List Nat) (L : List Int) (a : Nat) : List Int → List Int
  | [] => L
  | x :: M => putAt ks (L.set (pl ks a) x) (a + 1) M

theorem putAt_append (ks : List Nat) : ∀ (M N L : List Int) (a : Nat), putAt ks L a (M ++ N) = putAt ks (putAt ks L a M) (a + M.length) N
  | [], N, L, a => by simp [putAt]
  | x :: M, N, L, a => by
    rw [List.cons_append, putAt, putAt, putAt_append ks M N, List.length_cons, show a + 1 + M.length = a + (M.length + 1) by omega]

theorem putAt_length (ks : List Nat) : ∀ (M L : List Int) (a : Nat), (putAt ks L a M).length = L.length
  | [], L, a => rfl
  | x :: M, L, a => by rw [putAt, putAt_length ks M, List.length_set]

theorem putAt_bytes (ks : List Nat) : ∀ (M L : List Int) (a : Nat), IsBytes L → IsBytes M → IsBytes (putAt ks L a M)
  | [], L, a, hL, _ => hL
  | x :: M, L, a, hL, hM => by
    rw [putAt]
    refine putAt_bytes ks M _ _ ?_ (fun y hy => hM y (by simp [hy]))
    intro y hy
    rcases List.mem_or_eq_of_mem_set hy with hy | rfl
    · exact hL y hy
    · exact hM y (by simp)

theorem splice_nil (L : List Int) (p : Nat) : splice L p [] = L := by simp [splice]

theorem splice_cons (L : List Int) (p : Nat) (x : Int) (N : List Int) (h : p < L.length) : splice (L.set p x) (p + 1) N = splice L p (x :: N) := by
  unfold splice
  rw [List.length_cons, List.take_set, List.drop_set, if_pos (by omega), show p + 1 + N.length = p + (N.length + 1) by omega]
  have : (List.take (p + 1) L).set p x = List.take p L ++ [x] := by
    rw [List.take_add_one, List.set_append_right _ _ (by simp; omega)]
    simp [List.getElem?_eq_getElem h, Nat.min_eq_left (Nat.le_of_lt h)]
  rw [this]
  simp

/-- Within a frame they lie side by side. -/
theorem putAt_frame (ks : List Nat) : ∀ (N L : List Int) (a : Nat), a % 64 + N.length ≤ 64 → pl ks a + N.length ≤ L.length → putAt ks L a N = splice L (pl ks a) N
  | [], L, a, _, _ => by rw [splice_nil]; rfl
  | x :: N, L, a, h, hl => by
    rw [List.length_cons] at h hl
    rw [putAt, ← splice_cons L _ x N (by omega)]
    by_cases h0 : N = []
    · subst h0; rw [splice_nil]; rfl
    · have hp : 0 < N.length := List.length_pos_iff.2 h0
      have e : pl ks (a + 1) = pl ks a + 1 := by unfold pl; rw [show (a + 1) / 64 = a / 64 by omega]; omega
      rw [putAt_frame ks N _ (a + 1) (by omega) (by rw [e, List.length_set]; omega), e]

theorem u8s_splice (L : List Int) (p : Nat) (N : List Int) : u8s (splice L p N) = splice (u8s L) p (u8s N) := by
  simp [u8s, splice, List.map_take, List.map_drop]

theorem length_splice' (L : List Int) (p : Nat) (N : List Int) (h : p + N.length ≤ L.length) : (splice L p N).length = L.length := length_splice L p N h

theorem splice_bytes {L : List Int} {p : Nat} {N : List Int} (hL : IsBytes L) (hN : IsBytes N) : IsBytes (splice L p N) := by
  intro x hx
  unfold splice at hx
  rcases List.mem_append.1 hx with h | h
  · exact hL x (List.mem_of_mem_take h)
  · rcases List.mem_append.1 h with h | h
    · exact hN x h
    · exact hL x (List.mem_of_mem_drop h)

theorem keep_row {l : List Nat} {w x : World} (h : Keep l w x) {g : Nat} (hg : g ∈ l ∨ w.heap.size ≤ g) (cs : Array Value) : Keep l w (x.setRow g cs) :=
  ⟨h.os, h.tape, h.output, by simpa using h.size, fun k hk hn => by
    rw [setRow_other x g k cs (by rintro rfl; rcases hg with hg | hg; exact hn hg; omega)]
    exact h.block k hk hn⟩

section
variable {P : Program} {w : World} {ops : Array Oper} {rest : List Oper} {o : Oper} {act : Act} {Q : Exit → Act → World → Prop}

/-- 'copy(..)' of bytes into a block that is known whole. -/
theorem wpList_copy_row (hgd : o.guard = none) (d s : Operand) (dT sT : TypeId) (ho : o.op = .call { callee := .builtin .copy, args := #[d, s], argTypes := #[dT, sT] })
    (e : TypeId) (hu : P.underlying dT = some (.slice e)) (hsz : (P.info? e).map (·.size) = some 1) (g p dl dc m sc : Nat) (src : Option Addr)
    (hd : act.eval d = .slice (some ⟨g, p, none⟩) dl dc) (hs : act.eval s = .slice src m sc) (M : List Int) (hm : m = M.length) (hrow : Row w src sc M) (L : List Int) (t : TypeId)
    (hg : w.heap[g]? = some (.cells (u8s L).toArray t (0, 0))) (hfit : p + dl ≤ L.length) (q : Nat) (hq : q = (M.take dl).length)
    (h : ∀ w', w'.heap[g]? = some (.cells (u8s (splice L p (M.take dl))).toArray t (0, 0)) → Keep [g] w w' → wpList P ops Q rest (act.put o.dst (goInt (q : Nat))) w') :
    wpList P ops Q (o :: rest) act w := by
  subst hm
  subst hq
  by_cases h0 : (M.take dl) = []
  · have hz : M.length.min dl = 0 := by
      have := congrArg List.length h0
      rw [List.length_take, List.length_nil, Nat.min_comm] at this
      exact this
    refine wpList_copy_nothing hgd d s dT sT ho e hu hsz _ _ dl dc _ sc hd hs hz ?_
    have := h w (by rw [h0, splice_nil]; exact hg) (Keep.refl _ _)
    rw [h0] at this
    exact this
  · have hpos : 0 < (M.take dl).length := List.length_pos_iff.2 h0
    obtain ⟨b, off, rfl⟩ := hrow.some_of (by rw [List.length_take] at hpos; omega)
    have hcell : ∀ i, i < M.length → w.cell? ⟨b, off + i, none⟩ = some (.int .u8 (M.getD i 0)) := by
      rcases hrow.at' with ⟨hh, _⟩ | ⟨rfl, _⟩ | ⟨b', off', e', hc⟩
      · cases hh
      · simp at hpos
      · cases e'; exact hc
    have hlen : (u8s (M.take dl)).length = (M.take dl).length := u8s_length _
    refine wpList_copy_own hgd d s dT sT ho e hu hsz g p dl dc ⟨b, off, none⟩ M.length sc hd hs (u8s L).toArray t hg (u8s (M.take dl)) (by rw [hlen, List.length_take, Nat.min_comm]) ?_ ?_ ?_ ?_
    · intro j v hv
      have hj : j < (M.take dl).length := by
        rw [← hlen]
        exact (List.getElem?_eq_some_iff.1 hv).1
      rw [Addr.add_lit, hcell j (by rw [List.length_take] at hj; omega), ← hv]
      simp only [u8s, List.getElem?_map]
      rw [List.length_take] at hj
      rw [List.getElem?_take_of_lt (by omega), List.getElem?_eq_getElem (show j < M.length by omega)]
      simp [List.getD, List.getElem?_eq_getElem (show j < M.length by omega)]
    · rw [hlen, List.length_take]; simp [u8s]; omega
    · intro v hv
      obtain ⟨z, _, rfl⟩ := List.mem_map.1 hv
      simp [Value.oneCell']
    · rw [hlen]
      have he : ((u8s L).toArray.toList.take p ++ (u8s (M.take dl) ++ (u8s L).toArray.toList.drop (p + (M.take dl).length))) = u8s (splice L p (M.take dl)) := by
        rw [u8s_splice, splice, hlen]
      rw [he]
      exact h _ (setRow_heap w g _ _ t _ hg) (keep_row (Keep.refl _ _) (.inl (by simp)) _)
end

theorem RamAt.put {w x : World} {r fb g : Nat} {ks : List Nat} {L L' : List Int} (h : RamAt w r fb g ks L) (hk : Keep [g] w x) (hx : x.heap[g]? = some (.cells (u8s L').toArray 5 (0, 0))) (hl : L'.length = L.length) (hb : IsBytes L') : RamAt x r fb g ks L' := by
  have hne := h.ne
  obtain ⟨⟨cap, a1, a2⟩, ⟨cs, b1, b2⟩, c, d1, d2, d3⟩ := h
  exact ⟨⟨cap, hk.heap a1 (by simpa using hne.2.1), a2⟩, ⟨cs, hk.heap b1 (by simpa using hne.2.2), b2⟩, hx, hb, by rw [hl]; exact d2, d3⟩
end Go.Proofs.Ytgeakpeaohggoaa

/- What is laid in a memory: lay, SetByte, SetWord, Fill. -/
namespace Go.Proofs.Ytgeakpeaohggoaa
open Go.RowKit Go.Mum

/-- May so many bytes be laid there? -/
def layB (n a m al : Nat) : Bool := decide (a % al = 0 ∧ a + m ≤ 64 * n)
theorem layB_yes {n a m al : Nat} (h : a % al = 0 ∧ a + m ≤ 64 * n) : layB n a m al = true := decide_eq_true h
theorem layB_no {n a m al : Nat} (h : ¬ (a % al = 0 ∧ a + m ≤ 64 * n)) : layB n a m al = false := decide_eq_false h

/-- What a call that lays bytes leaves. -/
def LayPost (r fb g : Nat) (ks : List Nat) (L : List Int) (a : Nat) (M : List Int) (al : Nat) (w : World) (e : Ending) (w' : World) : Prop :=
  e = .returned (.bool (layB ks.length a M.length al)) ∧ RamAt w' r fb g ks (if layB ks.length a M.length al = true then putAt ks L a M else L) ∧ Keep [g] w w'

/-- The two method values that are handed on. -/
def mayV (v : Value) : Value := .func (.func 70) #[v] #[]
def atV (v : Value) : Value := .func (.func 71) #[v] #[]

set_option maxHeartbeats 1000000 in
theorem rlay_no {w : World} {v : Value} {n : Nat} (h : Sz w v n) (a : Nat) (ha : a < 4294967296) (al : Nat) (hal : al = 1 ∨ al = 4) {src : Option Addr} {c : Nat} (m : Nat) (hm : m ≤ 9223372036854775807)
    (hno : ¬ (a % al = 0 ∧ a + m ≤ 64 * n)) :
    Calls Try.prog 69 #[.int .u32 a, .slice src m c, .int .i64 al, .func (.func 70) #[v] #[], .func (.func 71) #[v] #[]] w fun e w' => e = .returned (.bool false) ∧ w = w' := by
  have C := rwithin_any h a m al ha hm hal
  rw [decide_eq_false hno] at C
  have C := Lib.hid C
  clear h hno
  go_enter Try.func69, Try.ntmps69
  go_wp2_with fail
  refine C.out.mono ?_
  rintro e w' ⟨rfl, rfl⟩
  go_wp2_with fail
  go_ret
  exact ⟨rfl, rfl⟩

theorem info_u8s : (Try.prog.info? 5).map (·.size) = some 1 := by kernel_rfl

set_option maxRecDepth 100000 in
set_option maxHeartbeats 4000000 in
theorem rlay_yes {w : World} {r fb g : Nat} {ks : List Nat} {L : List Int} (h : RamAt w r fb g ks L) (a : Nat) (al : Nat) (hal : al = 1 ∨ al = 4) {src : Option Addr} {c : Nat} {M : List Int}
    (hM : Row w src c M) (hsrc : ∀ b, src = some b → b.block ≠ g) (hyes : a % al = 0 ∧ a + M.length ≤ 64 * ks.length) :
    Calls Try.prog 69 #[.int .u32 a, .slice src M.length c, .int .i64 al, .func (.func 70) #[.pointer (some ⟨r, 0, none⟩)] #[], .func (.func 71) #[.pointer (some ⟨r, 0, none⟩)] #[]] w
      (LayPost r fb g ks L a M al w) := by
  have hs := h.size
  have C := rwithin_any h.sz a M.length al (by omega) (by omega) hal
  rw [decide_eq_true hyes] at C
  have C := Lib.hid C
  have HP : Hid (∀ w', RamAt w' r fb g ks (putAt ks L a M) → Keep [g] w w' → LayPost r fb g ks L a M al w (.returned (.bool true)) w') := Lib.hid fun w' h1 h2 => ⟨by rw [layB_yes hyes], by rw [if_pos (layB_yes hyes)]; exact h1, h2⟩
  have hyl := hyes.2
  have H := Lib.hid (And.intro h (And.intro hM hsrc))
  clear h hM hyes hsrc
  go_enter Try.func69, Try.ntmps69
  go_wp2_with fail
  refine C.out.mono ?_
  rintro e w' ⟨rfl, rfl⟩
  go_wp2_with fail
  have hsr : (src = none ∨ ∃ b off, src = some (⟨b, off, none⟩ : Addr)) ∨ M = [] := by
    rcases H.out.2.1.at' with ⟨h1, _⟩ | ⟨h1, _⟩ | ⟨b, off, h1, _⟩
    · exact .inl (.inl h1)
    · exact .inr h1
    · exact .inl (.inr ⟨b, off, h1⟩)
  go_loopw [0, 1, 11] (fun av bv _ wr => ∃ (P N : List Int) (s' : Option Addr) (c' k m : Nat), av = .int .u32 k ∧ bv = .slice s' m c' ∧ k = a + P.length ∧ m = N.length ∧ P.length + N.length = M.length ∧ P ++ N = M ∧ Row wr s' c' N ∧ (∀ b, s' = some b → b.block ≠ g) ∧ RamAt wr r fb g ks (putAt ks L a P) ∧ Keep [g] w wr) (fun _ bv _ _ => (match bv with | .slice _ n _ => n | _ => 0))
  case atStart => exact ⟨[], M, src, c, a, M.length, rfl, rfl, by simp, rfl, by simp, rfl, H.out.2.1, H.out.2.2, H.out.1, Keep.refl _ _⟩
  case round =>
    obtain ⟨P, N, s', c', k, m, rfl, rfl, hk, hm, hpn, hPN, hR, hne, hA, hK⟩ := hrel
    have Hk := Lib.hid (And.intro hk (And.intro hm hPN))
    have hkl : k + N.length ≤ 64 * ks.length := by omega
    by_cases hlt : 0 < m
    · obtain ⟨b, off, rfl⟩ := hR.some_of (by omega)
      have D := Lib.hid (rat_at hA k (by omega))
      have hpl := hA.pl_lt (a := k) (by omega)
      have hpe : pl ks k = 64 * ks.getD (k / 64) 0 + k % 64 := rfl
      have HR := Lib.hid (And.intro hR (And.intro hA (And.intro hK (hne _ rfl))))
      have HF := Lib.hid (putAt_frame ks (N.take (64 - k % 64)) (putAt ks L a P) k (by rw [List.length_take]; omega) (by rw [List.length_take]; omega))
      have hca : (m : Int) ≤ (c' : Int) := by have := hR.cap.1; omega
      have hfit : pl ks k + (64 - k % 64) ≤ (putAt ks L a P).length := by omega
      obtain ⟨q, hq⟩ : ∃ q, q = (N.take (64 - k % 64)).length := ⟨_, rfl⟩
      have hq' : q = min (64 - k % 64) N.length := by rw [hq, List.length_take]
      have hqm : (q : Int) ≤ (m : Int) := by omega
      have hq0 : 0 < q := by omega
      have hk9 : (k : Int) + (q : Int) ≤ 32768 := by omega
      have hNq : N.take q = N.take (64 - k % 64) := by
        rw [hq', ← List.take_eq_take_min]
      have HQ := Lib.hid (And.intro hq hNq)
      have hw1 : IntKind.u32.wrap (q : Int) = (q : Int) := by rw [IntKind.wrap_u32]; omega
      have HE : Hid (∀ x, x.heap[g]? = some (.cells (u8s (splice (putAt ks L a P) (pl ks k) (N.take (64 - k % 64)))).toArray 5 (0, 0)) → Keep [g] wr x → RamAt x r fb g ks (putAt ks L a (P ++ N.take q)) ∧ Row x (some ⟨b, off, none⟩) c' N ∧ Keep [g] w x) := Lib.hid fun x h1 h2 => by
        have hA := HR.out.2.1
        have hs' : splice (putAt ks L a P) (pl ks k) (N.take (64 - k % 64)) = putAt ks L a (P ++ N.take q) := by rw [putAt_append, hNq, ← HF.out, Hk.out.1]
        rw [hs'] at h1
        exact ⟨hA.put h2 h1 (by rw [putAt_length, putAt_length]) (putAt_bytes _ _ _ _ H.out.1.bytes (fun y hy => by
          rcases List.mem_append.1 hy with hy | hy
          · exact H.out.2.1.bytes y (by rw [← Hk.out.2.2]; simp [hy])
          · exact HR.out.1.bytes y (List.mem_of_mem_take hy))), HR.out.1.keep h2 (by simp only [Option.some.injEq, forall_eq']; simpa using HR.out.2.2.2), HR.out.2.2.1.trans h2⟩
      clear hR hA hne hk hm hpn hPN hK hpl hpe hq hq' hNq
      by_cases hcq : c' = q
      · subst hcq
        have hmq : m = c' := by omega
        subst hmq
        go_wp2_with fail
        refine D.out.mono ?_
        rintro e w' ⟨rfl, rfl⟩
        go_wp2_with (with_reducible refine wpList_copy_row rfl (.tmp 24) (.tmp 25) 22 22 rfl 5 Try.underlying22 info_u8s g (pl ks k) (64 - k % 64) (64 - k % 64) m m (some ⟨b, off, none⟩) rfl rfl N Hk.out.2.1 HR.out.1 (putAt ks L a P) 5 HR.out.2.1.data hfit m HQ.out.1 ?_; intro w2 hw2 hk2; have HZ := Lib.hid (HE.out w2 hw2 hk2); clear hw2 hk2)
        go_roundw
        case rel =>
          have hq := HQ.out.1
          rw [List.length_take] at hq
          have hm := Hk.out.2.1
          exact ⟨P ++ N.take m, N.drop m, some ⟨b, off, none⟩, m - m, k + m, m - m, by go_num, by simp, by rw [Hk.out.1, List.length_append, List.length_take]; omega, by rw [List.length_drop, Hk.out.2.1], by rw [List.length_append, List.length_take, List.length_drop, ← Hk.out.2.2, List.length_append]; omega, by rw [List.append_assoc, List.take_append_drop]; exact Hk.out.2.2, (by rw [List.drop_eq_nil_of_le (by omega)]; exact ⟨(by intro x hx; cases hx), ⟨by simp, by unfold maxLen; omega⟩, .inr (.inl ⟨rfl, _, rfl⟩)⟩), by simp only [Option.some.injEq, forall_eq']; exact HR.out.2.2.2, HZ.out.1, HZ.out.2.2⟩
        case measure => simp; omega
      · go_wp2_with fail
        refine D.out.mono ?_
        rintro e w' ⟨rfl, rfl⟩
        go_wp2_with (with_reducible refine wpList_copy_row rfl (.tmp 24) (.tmp 25) 22 22 rfl 5 Try.underlying22 info_u8s g (pl ks k) (64 - k % 64) (64 - k % 64) m c' (some ⟨b, off, none⟩) rfl rfl N Hk.out.2.1 HR.out.1 (putAt ks L a P) 5 HR.out.2.1.data hfit q HQ.out.1 ?_; intro w2 hw2 hk2; have HZ := Lib.hid (HE.out w2 hw2 hk2); clear hw2 hk2)
        go_roundw
        case rel =>
          have hq := HQ.out.1
          rw [List.length_take] at hq
          have hm := Hk.out.2.1
          exact ⟨P ++ N.take q, N.drop q, some ⟨b, off + q, none⟩, c' - q, k + q, m - q, by go_num, rfl, by rw [Hk.out.1, List.length_append, List.length_take]; omega, by rw [List.length_drop, Hk.out.2.1], by rw [List.length_append, List.length_take, List.length_drop, ← Hk.out.2.2, List.length_append]; omega, by rw [List.append_assoc, List.take_append_drop]; exact Hk.out.2.2, HZ.out.2.1.drop q (by omega), by simp only [Option.some.injEq, forall_eq']; exact HR.out.2.2.2, HZ.out.1, HZ.out.2.2⟩
        case measure => simp; omega
    · obtain rfl : m = 0 := by omega
      have hN : N = [] := List.eq_nil_of_length_eq_zero (by omega)
      have HF : Hid (LayPost r fb g ks L a M al w (.returned (.bool true)) wr) := Lib.hid (by
        subst hN
        rw [List.append_nil] at hPN
        subst hPN
        exact HP.out _ hA hK)
      clear hR hA hne hk hm hpn hPN hK hN
      go_wp2
      go_ret
      exact HF.out

theorem rlay_any {w : World} {r fb g : Nat} {ks : List Nat} {L : List Int} (h : RamAt w r fb g ks L) (a : Nat) (ha : a < 4294967296) (al : Nat) (hal : al = 1 ∨ al = 4) {src : Option Addr} {c : Nat} {M : List Int}
    (hM : Row w src c M) (hsrc : ∀ b, src = some b → b.block ≠ g) (hl : M.length ≤ 9223372036854775807) :
    Calls Try.prog 69 #[.int .u32 a, .slice src M.length c, .int .i64 al, .func (.func 70) #[.pointer (some ⟨r, 0, none⟩)] #[], .func (.func 71) #[.pointer (some ⟨r, 0, none⟩)] #[]] w
      (LayPost r fb g ks L a M al w) := by
  by_cases hyes : a % al = 0 ∧ a + M.length ≤ 64 * ks.length
  · exact rlay_yes h a al hal hM hsrc hyes
  · refine (rlay_no h.sz a ha al hal M.length hl hyes).mono ?_
    rintro e w' ⟨rfl, rfl⟩
    exact ⟨by rw [layB_no hyes], by rw [if_neg (by rw [layB_no hyes]; simp)]; exact h, Keep.refl _ _⟩

theorem lay_then {r fb g : Nat} {ks : List Nat} {L : List Int} {a : Nat} {M : List Int} {al : Nat} {w x w' : World} {e : Ending} (hk : Keep [g] w x) (h : LayPost r fb g ks L a M al x e w') : LayPost r fb g ks L a M al w e w' :=
  ⟨h.1, h.2.1, hk.trans h.2.2⟩

theorem row_one (w : World) (z : Int) (h0 : 0 ≤ z ∧ z < 256) : Row (w.alloc (.cells #[.int .u8 z] 5)) (some ⟨w.heap.size, 0, none⟩) 1 [z] :=
  ⟨by intro x hx; simp at hx; omega, ⟨Nat.le_refl _, by unfold maxLen; omega⟩, .inr <| .inr ⟨_, _, rfl, fun i hi => by
    obtain rfl : i = 0 := by simpa using hi
    exact cell_of (heap_alloc_same w _) 0 rfl⟩⟩

theorem row_four (w : World) (z0 z1 z2 z3 : Int) (h : IsBytes [z0, z1, z2, z3]) : Row (w.alloc (.cells #[.int .u8 z0, .int .u8 z1, .int .u8 z2, .int .u8 z3] 5)) (some ⟨w.heap.size, 0, none⟩) 4 [z0, z1, z2, z3] :=
  ⟨h, ⟨Nat.le_refl _, by unfold maxLen; simp⟩, .inr <| .inr ⟨_, _, rfl, fun i hi => by
    simp only [List.length_cons, List.length_nil] at hi
    match i, hi with
    | 0, _ => exact cell_of (heap_alloc_same w _) 0 rfl
    | 1, _ => exact cell_of (heap_alloc_same w _) 1 rfl
    | 2, _ => exact cell_of (heap_alloc_same w _) 2 rfl
    | 3, _ => exact cell_of (heap_alloc_same w _) 3 rfl⟩⟩

/-- A word's four bytes. -/
def le4 (s : Nat) : List Int := [(s : Int) % 256, (s : Int) / 256 % 256, (s : Int) / 65536 % 256, (s : Int) / 16777216]

theorem le4_bytes {s : Nat} (hs : s < 4294967296) : IsBytes (le4 s) := by
  intro x hx
  simp only [le4, List.mem_cons, List.not_mem_nil, or_false] at hx
  rcases hx with rfl | rfl | rfl | rfl <;> omega

set_option maxHeartbeats 1000000 in
theorem rfill_any {w : World} {r fb g : Nat} {ks : List Nat} {L : List Int} (h : RamAt w r fb g ks L) (a : Nat) (ha : a < 4294967296) {src : Option Addr} {c : Nat} {M : List Int}
    (hM : Row w src c M) (hsrc : ∀ b, src = some b → b.block ≠ g) (hl : M.length ≤ 9223372036854775807) :
    Calls Try.prog 66 #[.pointer (some ⟨r, 0, none⟩), .int .u32 a, .slice src M.length c] w (LayPost r fb g ks L a M 1 w) := by
  have C := Lib.hid (rlay_any h a ha 1 (.inl rfl) hM hsrc hl)
  have hmf : ∀ (fn : Fn) (first cap : Array Value) (w : World), (Instr.makeFunc fn first cap).run Try.prog w = .ok (.func fn first cap) w := fun _ _ _ _ => rfl
  clear h hM hsrc hl
  go_enter Try.func66, Try.ntmps66
  go_wp2_with fail
  refine C.out.mono ?_
  rintro e w' HL
  obtain ⟨rfl, hr⟩ := id HL
  have HL := Lib.hid HL
  clear hr
  go_wp2_with fail
  go_ret
  exact HL.out

set_option maxHeartbeats 1000000 in
theorem rsetbyte_any {w : World} {r fb g : Nat} {ks : List Nat} {L : List Int} (h : RamAt w r fb g ks L) (a : Nat) (ha : a < 4294967296) (z : Int) (hz : 0 ≤ z ∧ z < 256) :
    Calls Try.prog 50 #[.pointer (some ⟨r, 0, none⟩), .int .u32 a, .int .u8 z] w (LayPost r fb g ks L a [z] 1 w) := by
  have hK : Keep [g] w (w.alloc (.cells #[.int .u8 z] 5)) := (Keep.refl _ _).alloc _
  have C := Lib.hid ((rlay_any (h.keep0 ((Keep.refl [] w).alloc _)) a ha 1 (.inl rfl) (row_one w z hz) (by have := h.lt.2.2; simp only [Option.some.injEq, forall_eq']; omega) (by simp)).mono fun e w' => lay_then hK)
  have hmf : ∀ (fn : Fn) (first cap : Array Value) (w : World), (Instr.makeFunc fn first cap).run Try.prog w = .ok (.func fn first cap) w := fun _ _ _ _ => rfl
  clear h hK
  go_enter Try.func50, Try.ntmps50
  go_wp2_with fail
  refine C.out.mono ?_
  rintro e w' HL
  obtain ⟨rfl, hr⟩ := id HL
  have HL := Lib.hid HL
  clear hr
  go_wp2_with fail
  go_ret
  exact HL.out

/-- Of a receiver that has no such place. -/
theorem none_then {w x w' : World} {e : Ending} (hk : Keep [] w x) (h : e = .returned (.bool false) ∧ x = w') : e = .returned (.bool false) ∧ Keep [] w w' := ⟨h.1, h.2 ▸ hk⟩

set_option maxHeartbeats 1000000 in
theorem rsetbyte_no {w : World} {v : Value} {n : Nat} (hz : ∀ o, Sz (w.alloc o) v n) (a : Nat) (ha : a < 4294967296) (hn : 64 * n ≤ a) (z : Int) :
    Calls Try.prog 50 #[v, .int .u32 a, .int .u8 z] w fun e w' => e = .returned (.bool false) ∧ Keep [] w w' := by
  have hK : ∀ o, Keep [] w (w.alloc o) := fun o => (Keep.refl _ _).alloc o
  have C := Lib.hid (fun o (src : Option Addr) (c : Nat) => (rlay_no (hz o) a ha 1 (.inl rfl) (src := src) (c := c) 1 (by omega) (by omega)).mono fun e w' => none_then (hK _))
  have hmf : ∀ (fn : Fn) (first cap : Array Value) (w : World), (Instr.makeFunc fn first cap).run Try.prog w = .ok (.func fn first cap) w := fun _ _ _ _ => rfl
  clear hK hz
  go_enter Try.func50, Try.ntmps50
  go_wp2_with fail
  refine (C.out _ _ _).mono ?_
  rintro e w' ⟨rfl, hk⟩
  go_wp2_with fail
  go_ret
  exact ⟨rfl, hk⟩
end Go.Proofs.Ytgeakpeaohggoaa
