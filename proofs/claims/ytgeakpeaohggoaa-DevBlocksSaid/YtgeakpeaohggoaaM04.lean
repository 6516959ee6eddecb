/- Contracts of the functions that the law reaches, walked, and the plain laws on them (several texts in one). -/
import Derived.RangeFuncBox
import Derived.RangeFuncLeaves
import Derived.RangeFuncWrites
import Derived.OwnWalkIn
import Derived.TacticsInMore
import Derived.LoopNIn
import Derived.LoopIn
import Derived.Shelf.Abstract
import Derived.Shelf.RegionOpen
import Derived.RangeFuncNested
import Derived.RangeFuncCalls
import Derived.WalkKit
import Derived.OwnWalk
import Derived.Deep.OwnRows
import Derived.Test.YtgeakpeaohggoaaM01
import Derived.Test.YtgeakpeaohggoaaM03

/- A range over a function whose iterator writes what lay ahead of the loop: the law of the walk, over an iterator's contract of one's own. -/
namespace Go.Mum
open Go.RowKit

variable {F : Fence} {n : Nat} {P : Program}

theorem keepsFrom_of_keep {B : Nat} {l : List Nat} {w x : World} (h : Keep l w x) (hl : ∀ k ∈ l, k < B ∨ ∀ o, w.heap[k]? = some o → o.isCells = true) : KeepsFrom B w x :=
  ⟨h.size, fun k o hB hk ho => by
    refine h.heap hk (fun hm => ?_)
    rcases hl k hm with h1 | h1
    · omega
    · rw [h1 o hk] at ho; cases ho⟩

/-- I k: k rounds are over; I' k: where the iterator hands out the k-th; Ax: behind the assignment. -/
theorem wpIn_rangeFunc_open {g : Operand} {ps : Array Tmp} {assign body : Code} {Q : Exit → Act → World → Prop} {a : Act} {w : World}
    (hro : F.round = none) (h1 : 1 ≤ n) {gf : Nat} {lb : Array Value} (hg : a.eval g = .func (.func gf) #[] lb) (hFg : F.fn gf) (eg : ∀ args w, (callFunc gf args).run P w = .ok (.enter gf args) w)
    (encs : Nat → Array Value) (hps : ∀ k, (encs k).size = ps.size) (Step : Nat → World → World → Prop) (Dn : Nat → Prop)
    (I I' : Nat → World → Prop) (Ax : Nat → Act → World → Prop)
    (hdrew : ∀ k W m, I k W → I k (W.drewN m))
    (hput : ∀ k W l o o', w.heap.size ≤ l → W.heap[l]? = some o → o.isCells = false → I k W → I k (W.putObj l o'))
    (hputA : ∀ k c W l o o', w.heap.size ≤ l → W.heap[l]? = some o → o.isCells = false → Ax k c W → Ax k c (W.putObj l o'))
    (h0 : ∀ o o', I 0 ((w.alloc o).alloc o'))
    (hstep : ∀ k W x, I k W → Step k W x → I' k x ∧ KeepsFrom w.heap.size W x)
    (hseq : ∀ (l : Nat) (J : Nat → World → Prop), (∀ k W, J k W → I k W) → (∀ k W m, J k W → J k (W.drewN m)) →
      (∀ k W x, J k W → Step k W x → YieldAt F (n - 1 - 1) P l (encs k) x fun e W' => e = .returned (.bool true) ∧ J (k + 1) W') →
      ∀ W, J 0 W → CallsIn F (n - 1) P gf (#[.func (.yield l) #[] #[]] ++ lb) W fun e W' => (∃ v, e = .returned v) ∧ ∃ k, Dn k ∧ J k W')
    (hassign : ∀ (l k : Nat) (W : World), I' k W →
      assign.wpIn (F.inRound l) (n - 1 - 1) P (Exit.then (fun c W1 => Ax k c W1 ∧ KeepsFrom w.heap.size W W1) (fun _ _ _ => False)) { tmps := (ps.zip (encs k)).foldl (fun t (p, v) => t.setIfInBounds p v) a.tmps, defers := [] } W)
    (hbody : ∀ (l k : Nat) (c : Act) (W : World), Ax k c W → body.wpIn (F.inRound l) (n - 1 - 1) P (fun e _ W' => e = .normal ∧ I (k + 1) W' ∧ KeepsFrom w.heap.size W W') c W)
    (hdone : ∀ (D k : Nat) (W : World), w.heap.size ≤ D → Dn k → I k W → W.heap[D]? = some (.deferred (some [])) → Q .normal { a with defers := { target := .collected D, args := #[] } :: a.defers } W) :
    (Code.rangeFunc g ps assign body).wpIn F n P Q a w := by
  refine wpIn_rangeFunc ?_
  intro fn hfn
  rw [hro]
  obtain ⟨rec, hrec⟩ : ∃ rec : LoopState → Option Code → Loop, rec = fun st pe => { state := st, pending := pe, fn, tmps := a.tmps, params := ps, assign, body, defers := w.heap.size } := ⟨_, rfl⟩
  obtain ⟨W1, hW1⟩ : ∃ W1, (w.alloc (.deferred (some []))).alloc (.loop (rec .ready none)) = W1 := ⟨_, rfl⟩
  have hL1 : W1.heap[w.heap.size + 1]? = some (.loop (rec .ready none)) := by
    rw [← hW1]; have := World.alloc_heap_new (w.alloc (.deferred (some []))) (.loop (rec .ready none)); rwa [World.size_alloc] at this
  have hK1 : W1.heap[w.heap.size]? = some (.deferred (some [])) := by
    rw [← hW1]; exact (Below.heap_alloc _ _ _ (by simp)).trans (World.alloc_heap_new w _)
  have hI1 : I 0 W1 := by rw [← hW1]; exact h0 _ _
  refine ⟨w.heap.size + 1, [{ target := .collected w.heap.size, args := #[] }], W1, { target := .fn (.func gf) lb, args := #[.func (.yield (w.heap.size + 1)) #[] #[]] }, W1, gf,
    #[.func (.yield (w.heap.size + 1)) #[] #[]] ++ lb, W1, ?_, ?_, ?_, ?_, fun _ => h1, ?_⟩
  · rw [← hW1, hrec]; exact run_enterLoop_outer _ _ _ _ _
  · simp only [resolve, hg]
    simp [go_sem]
  · intro f' hf'; simp [Target.leads] at hf'; subst hf'; exact hFg
  · simp [invoke, go_sem, eg]
  · refine (hseq (w.heap.size + 1) (fun k W => I k W ∧ W.heap[w.heap.size + 1]? = some (.loop (rec .ready none)) ∧ W.heap[w.heap.size]? = some (.deferred (some []))) (fun _ _ h => h.1) (fun k W m h => ⟨hdrew k W m h.1, h.2.1, h.2.2⟩) ?_ W1 ⟨hI1, hL1, hK1⟩).mono ?_
    · rintro k W x ⟨hi, hl0, hk0⟩ hst
      obtain ⟨hi', hkf⟩ := hstep k W x hi hst
      have hl := hkf.same _ _ (by omega) hl0 rfl
      have hk := hkf.same _ _ (Nat.le_refl _) hk0 rfl
      have hlt : w.heap.size + 1 < x.heap.size := (Array.getElem?_eq_some_iff.1 hl).1
      have hy := run_yield (P := P) (args := encs k) hl (by rw [hrec]; exact hps k)
      rw [hrec] at hy
      refine ⟨fn, _, assign, body, hy, roundIn_of_wpIn hfn (wpIn_mono (hassign (w.heap.size + 1) k x hi') ?_)⟩
      rintro e c W2 hp
      cases e with
      | normal =>
        obtain ⟨hax, hk2⟩ := hp
        have hl2 := hk2.same _ _ (by omega) hl rfl
        have hd2 := hk2.same _ _ (Nat.le_refl _) hk rfl
        have hlt2 : w.heap.size + 1 < W2.heap.size := (Array.getElem?_eq_some_iff.1 hl2).1
        refine ⟨_, run_beginRound hl2 (by rw [hrec]), ?_⟩
        have hl3 : (W2.putObj (w.heap.size + 1) (.loop { rec .ready none with state := .busy })).heap[w.heap.size + 1]? = some (.loop { rec .ready none with state := .busy }) := World.putObj_heap_same hlt2
        have hd3 : (W2.putObj (w.heap.size + 1) (.loop { rec .ready none with state := .busy })).heap[w.heap.size]? = some (.deferred (some [])) := (World.putObj_heap_other (by omega)).trans hd2
        refine wpIn_mono (hbody (w.heap.size + 1) k c _ (hputA k c W2 _ _ _ (by omega) hl2 rfl hax)) ?_
        rintro e a3 W3 ⟨rfl, hi3, hk3⟩
        have hl4 := hk3.same _ _ (by omega) hl3 rfl
        have hd4 := hk3.same _ _ (Nat.le_refl _) hd3 rfl
        have hlt4 : w.heap.size + 1 < W3.heap.size := (Array.getElem?_eq_some_iff.1 hl4).1
        have hend := run_endRound (P := P) none hl4
        refine ⟨_, _, hend, rfl, hput _ _ _ _ _ (by omega) hl4 rfl hi3, ?_, (World.putObj_heap_other (by omega)).trans hd4⟩
        rw [World.putObj_heap_same hlt4, hrec]
        rfl
      | exit id => exact hp.elim
      | goto t => exact hp.elim
      | ret => exact hp.elim
      | panic chain => exact hp.elim
      | outgrown => exact hp.elim
    · rintro e W2 ⟨⟨v, rfl⟩, k, hD, hi, hl, hk⟩
      exact ⟨none, _, by have := run_endLoop (P := P) hl (by rw [hrec]; simp); rw [hrec] at this; exact this, hdone _ k _ (Nat.le_refl _) hD (hput _ _ _ _ _ (by omega) hl rfl hi) ((World.putObj_heap_other (by omega)).trans hk)⟩

end Go.Mum

/- Devices: the events that are due, one by one. -/
namespace Go.Proofs.Ytgeakpeaohggoaa
open Go.RowKit Go.Mum Go.Shelf
set_option linter.unusedVariables false
set_option linter.unusedSimpArgs false
set_option maxRecDepth 100000

attribute [local go_sem] Oper.semAt_some

/-- How many of a script are due. -/
def cntD (t : Int) : List Ev → Nat
  | [] => 0
  | e :: r => if e.at' ≤ t then cntD t r + 1 else 0

theorem cntD_le (t : Int) : ∀ l, cntD t l ≤ l.length
  | [] => Nat.le_refl _
  | e :: r => by
    have := cntD_le t r
    simp only [cntD, List.length_cons]
    split <;> omega
theorem cntD_lt (t : Int) : ∀ (l : List Ev) (k : Nat), k < cntD t l → ∃ e r, l.drop k = e :: r ∧ e.at' ≤ t
  | [], k, h => by simp [cntD] at h
  | e :: r, 0, h => by
    simp only [cntD] at h
    split at h
    · exact ⟨e, r, rfl, by assumption⟩
    · omega
  | e :: r, k + 1, h => by
    simp only [cntD] at h
    split at h
    · exact cntD_lt t r k (by omega)
    · omega
theorem cntD_end (t : Int) : ∀ (l : List Ev), l.drop (cntD t l) = [] ∨ ∃ e r, l.drop (cntD t l) = e :: r ∧ ¬ e.at' ≤ t
  | [] => .inl rfl
  | e :: r => by
    simp only [cntD]
    split
    · exact cntD_end t r
    · exact .inr ⟨e, r, rfl, by assumption⟩

def lateE (e : Ev) (t : Int) : Ev := { e with at' := t }

/-- What the iterator says between two rounds and of its own step. -/
def DueI (b Bd Bs : Nat) (step : Int) (W : World) (F : List Nat) (s : DS) : Prop := DvAt W b F s ∧ W.cell? ⟨Bd, 0, none⟩ = some (.pointer (some ⟨b, 0, none⟩)) ∧ W.cell? ⟨Bs, 0, none⟩ = some (.int .i64 step)
def DueStep (b : Nat) (s s' : DS) (W x : World) : Prop := Keep [b] W x ∧ ∀ F, DvAt W b F s → ∃ F', DvAt x b F' s' ∧ ∀ j ∈ F', j ∈ F

/-- The script turns. -/
theorem DvIn.turnS {w x : World} {b : Nat} {s s' : DS} {q bl sc sc' ou : Value} (h : DvIn w b s q bl sc ou) (hk : Keep [b] w x) (hx : x.heap[b]? = some (.cells (dvC s' q bl sc' ou) 74 (0, 0)))
    (hs : Buf x 25 3 sc' s'.script.length (evsC s'.script)) (hb : ∀ k ∈ blk sc', k ∈ blk sc) (h1 : s'.queue = s.queue) (h2 : s'.disk = s.disk) (h4 : s'.out = s.out) : DvIn x b s' q bl sc' ou := by
  have g := fun (j : Nat) (hj' : j + 1 < 5) k hk (hb : k ∈ [b]) => h.nodup.get (i := j + 1) (j := 0) hj' (by simp) (by omega) k hk hb
  refine ⟨hx, ?_, ?_, hs, ?_, h.nodup.set w.heap.size 3 h.lt (blk sc') (by simp) (fun k hk => .inl (hb k hk))⟩
  · rw [h1]; exact h.hq.keep hk (fun k hk => g 0 (by omega) k hk)
  · rw [h2]; exact h.hbl.keep hk (fun k hk => g 1 (by omega) k hk)
  · rw [h4]; exact h.hou.keep hk (fun k hk => g 3 (by omega) k hk)

theorem due_step {wr W2 : World} {b B : Nat} {s : DS} {q bl ou : Value} {g off c : Nat} {e : Ev} {r : List Ev} (hi : DvIn wr b s q bl (.slice (some ⟨g, off, none⟩) (e :: r).length c) ou) (hs : s.script = e :: r) (kA : Keep [] wr W2) (hB : wr.heap.size ≤ B) (V u : Value)
    (hV : (c = 1 ∧ r = [] ∧ V = .slice (some ⟨g, off, none⟩) 0 0) ∨ V = .slice (some ⟨g, off + 3, none⟩) r.length (c - 1)) :
    DueStep b s { s with script := r } wr (((W2.setCell ⟨b, 11, none⟩ V).setCell ⟨B, 0, none⟩ u).drew) := by
  have hb := lt_of_heap hi.cs
  have hK : Keep [b] wr (((W2.setCell ⟨b, 11, none⟩ V).setCell ⟨B, 0, none⟩ u).drew) := ((((Keep.refl _ _).trans (kA.weaken (fun k hk => by cases hk))).setCell (p := ⟨b, 11, none⟩) (.inl (by simp)) V).setCell (p := ⟨B, 0, none⟩) (.inr hB) u).drew
  refine ⟨hK, ?_⟩
  rintro F ⟨ok, q', bl', sc', ou', hi', rfl⟩
  have ec : sc' = .slice (some ⟨g, off, none⟩) (e :: r).length c := by
    have h1 : wr.cell? ⟨b, 11, none⟩ = some sc' := cell_of hi'.cs 11 rfl
    have h2 : wr.cell? ⟨b, 11, none⟩ = some (.slice (some ⟨g, off, none⟩) (e :: r).length c) := cell_of hi.cs 11 rfl
    rw [h1] at h2
    exact Option.some.inj h2
  subst ec
  clear hi
  have hsc := hi'.hsc
  rw [hs] at hsc
  have hblk : ∀ k ∈ blk V, k ∈ blk (.slice (some ⟨g, off, none⟩) (e :: r).length c) := by
    rcases hV with ⟨_, _, rfl⟩ | rfl
    · intro k hk; simp [blk] at hk
    · intro k hk
      by_cases hc : c - 1 = 0
      · simp [blk, hc] at hk
      · have : c ≠ 0 := by omega
        simp [blk, hc] at hk
        simp [blk, this, hk]
  have hgb : ∀ k ∈ blk (.slice (some ⟨g, off, none⟩) (e :: r).length c), k ∉ [b] := hi'.nodup.get (i := 3) (j := 0) (by simp) (by simp) (by omega)
  refine ⟨_, ⟨⟨ok.bits, ok.mask, ok.queue, ok.disk, ok.bk, ok.ad, ok.st, ok.kd, ok.fr, ok.to, ?_, ok.out⟩, q', bl', V, ou', hi'.turnS (sc' := V) hK ?_ ?_ hblk rfl rfl rfl, rfl⟩, ?_⟩
  · have := ok.script
    rw [hs] at this
    exact ⟨fun x hx => this.1 x (by simp [hx]), by have := this.2; simp at this; show r.length ≤ 64; omega⟩
  · show ((W2.setCell ⟨b, 11, none⟩ V).setCell ⟨B, 0, none⟩ u).heap[b]? = _
    rw [heap_set_other (by omega)]
    have := heap_set_same (kA.heap hi'.cs (by simp)) 11 V
    rw [this]
    rfl
  · rcases hV with ⟨_, rfl, rfl⟩ | rfl
    · exact Buf.empty _ _ _ _
    · have h1 := (hsc.drop 1 (by simp)).keep hK (fun k hk => hgb k (hblk k (by simpa using hk)))
      simpa [evsC_cons, evC] using h1
  · intro j hj
    simp only [List.mem_cons, List.mem_append] at hj ⊢
    rcases hj with hj | ((hj | hj) | hj) | hj
    · exact .inl hj
    · exact .inr (.inl (.inl (.inl hj)))
    · exact .inr (.inl (.inl (.inr hj)))
    · exact .inr (.inl (.inr (hblk j hj)))
    · exact .inr (.inr hj)

def leftD (b : Nat) (W : World) : Nat := match W.cell? ⟨b, 11, none⟩ with | some (.slice _ n _) => n | _ => 0
theorem leftD_of {w : World} {b : Nat} {F : List Nat} {s : DS} (h : DvAt w b F s) : leftD b w = s.script.length := by
  obtain ⟨ok, q, bl, sc, ou, hi, rfl⟩ := h
  obtain ⟨a, c, rfl, _, _⟩ := hi.hsc.shape
  have e : w.cell? ⟨b, 11, none⟩ = some (.slice a s.script.length c) := cell_of hi.cs 11 rfl
  simp [leftD, e]

set_option maxHeartbeats 2000000 in
theorem due1 (n l : Nat) (hn : 1 ≤ n) (b Bd Bs : Nat) (step : Int) (hst : -9223372036854775808 ≤ step ∧ step ≤ 9223372036854775807) (sk : Nat → DS) (L : List Ev) (hsk : ∀ k, (sk k).script = L.drop k) (J : Nat → World → Prop)
    (hJd : ∀ k W m, J k W → J k (W.drewN m)) (hJ : ∀ k W, J k W → ∃ F, DueI b Bd Bs step W F (sk k))
    (hY : ∀ k W x, J k W → k < cntD step L ∧ DueStep b (sk k) { sk k with script := L.drop (k + 1) } W x → ∀ e, L[k]? = some e → YieldAt Fence.wide (n - 1) Try.prog l #[.agg (evC (lateE e step)).toArray] x fun e W' => e = .returned (.bool true) ∧ J (k + 1) W')
    (W : World) (h0 : J 0 W) :
    CallsIn Fence.wide n Try.prog 65 #[.func (.yield l) #[] #[], .pointer (some ⟨Bd, 0, none⟩), .pointer (some ⟨Bs, 0, none⟩)] W fun e W' => (∃ v, e = .returned v) ∧ ∃ k, k = cntD step L ∧ J k W' := by
  refine callsIn_of_wp Try.func65 rfl trivial ?_ rfl
  simp only [Try.ntmps65, List.size_toArray, List.length_cons, List.length_nil, Nat.reduceAdd, Nat.reduceSub, Array.replicate_succ, Array.replicate_zero, List.push_toArray, List.append_toArray, List.nil_append, List.cons_append]
  gi_wp2
  gi_loopw [4, 5, 6, 7, 8, 9, 10, 11, 12, 13, 14, 15, 16, 17, 18, 19, 20, 21, 22, 23, 24, 25, 26, 27, 28, 29, 30, 31, 32, 33, 34, 35, 36, 37, 38, 39, 40, 41] (fun _ _ _ _ _ _ _ _ _ _ _ _ _ _ _ _ _ _ _ _ _ _ _ _ _ _ _ _ _ _ _ _ _ _ _ _ _ _ wr => ∃ k : Nat, k ≤ cntD step L ∧ J k wr) (fun _ _ _ _ _ _ _ _ _ _ _ _ _ _ _ _ _ _ _ _ _ _ _ _ _ _ _ _ _ _ _ _ _ _ _ _ _ _ wr => leftD b wr)
  case atStart => exact ⟨0, by omega, h0⟩
  case round =>
    obtain ⟨k, hk, hJk⟩ := hrel
    obtain ⟨F, hD, hd, hs⟩ := hJ k wr hJk
    obtain ⟨ok, q, bl, sc, ou, hi, rfl⟩ := hD
    have hsc := hi.hsc
    have e11 : wr.cell? ⟨b, 11, none⟩ = some sc := cell_of hi.cs 11 rfl
    rw [hsk k] at hsc
    rcases Nat.lt_or_ge k (cntD step L) with hlt | hge
    · obtain ⟨e, r, he, hle⟩ := cntD_lt step L k hlt
      rw [he] at hsc
      obtain ⟨g, off, c, rfl, hc, hcs⟩ := hsc.cells (by simp)
      have z0 := hcs 0 (.int .i64 e.at') (by simp [evsC, evC])
      have z1 := hcs 1 (.int .i64 e.kd) (by simp [evsC, evC])
      have z2 := hcs 2 (.int .u8 e.by') (by simp [evsC, evC])
      rw [Nat.add_zero] at z0
      simp only [List.length_cons] at e11 hc
      have t1 : decide ((0 : Int) < (r.length : Int) + 1) = true := decide_eq_true (by omega)
      have t2 : decide (e.at' ≤ step) = true := by simp [hle]
      have HJ := Lib.hid (And.intro hJk (And.intro ok (And.intro hi (And.intro hsc he))))
      clear hJk ok hi hsc he hcs
      have hm : Try.prog.follows .mixedOrders = true := by kernel_rfl
      gi_wp2
      gi_big_quiet_th_o (fail)
      have kW : Keep [] wr (wr.drewN nq) := (Keep.refl _ _).drewN nq
      generalize wr.drewN nq = W1 at kW ⊢
      have fz : ∀ cs t i, (W1.alloc (.cells cs t)).frozen? ⟨W1.heap.size, i, none⟩ = false := fun cs t i => frozen_of (heap_alloc_at _ rfl) i
      have hd1 := kW.cell hd (by simp)
      have hs1 := kW.cell hs (by simp)
      have f11 := kW.cell e11 (by simp)
      have y0 := kW.cell z0 (by simp)
      have y1 := kW.cell z1 (by simp)
      have y2 := kW.cell z2 (by simp)
      clear hd hs e11 z0 z1 z2
      gi_wp2
      have kA : Keep [] wr (W1.alloc (.cells #[.int .i64 e.at', .int .i64 e.kd, .int .u8 e.by'] 25)) := kW.alloc _
      have hE : (W1.alloc (.cells #[.int .i64 e.at', .int .i64 e.kd, .int .u8 e.by'] 25)).heap[W1.heap.size]? = some (.cells #[.int .i64 e.at', .int .i64 e.kd, .int .u8 e.by'] 25 (0, 0)) := heap_alloc_at _ rfl
      have hE1 : wr.heap.size ≤ W1.heap.size := kW.size
      generalize W1.alloc (.cells #[.int .i64 e.at', .int .i64 e.kd, .int .u8 e.by'] 25) = W2 at kA hE ⊢
      generalize W1.heap.size = B at hE hE1 ⊢
      clear fz hd1 hs1 f11 y0 y1 y2 kW
      obtain ⟨d1, d2⟩ : (W2.cell? ⟨Bd, 0, none⟩ = some (.pointer (some ⟨b, 0, none⟩)) ∧ W2.cell? ⟨Bs, 0, none⟩ = some (.int .i64 step)) := by
        obtain ⟨F, hD, hd, hs⟩ := hJ k wr HJ.out.1
        exact ⟨kA.cell hd (by simp), kA.cell hs (by simp)⟩
      have d3 : W2.cell? ⟨b, 11, none⟩ = some (.slice (some ⟨g, off, none⟩) (r.length + 1) c) := cell_of (kA.heap HJ.out.2.2.1.cs (by simp)) 11 rfl
      have d4 := frozen_of (kA.heap HJ.out.2.2.1.cs (by simp))
      have d5 := frozen_of hE
      have d6 : W2.cell? ⟨B, 0, none⟩ = some (.int .i64 e.at') := cell_of hE 0 rfl
      have d7 : W2.cell? ⟨B, 1, none⟩ = some (.int .i64 e.kd) := cell_of hE 1 rfl
      have d8 : W2.cell? ⟨B, 2, none⟩ = some (.int .u8 e.by') := cell_of hE 2 rfl
      refine wpIn_wide.2 ?_
      have he' : L[k]? = some e := by
        have := HJ.out.2.2.2.2
        have h2 : (L.drop k)[0]? = some e := by rw [this]; rfl
        simpa using h2
      have hr1 : L.drop (k + 1) = r := by
        have := HJ.out.2.2.2.2
        rw [← List.drop_drop, this]; rfl
      have hmono : ∀ k', J k' W → True := fun _ _ => trivial
      have MS : ∀ k' W', J k' W' → leftD b W' = L.length - k' := fun k' W' h' => by
        obtain ⟨F, hD, _⟩ := hJ k' W' h'
        rw [leftD_of hD, hsk]; simp
      have hlen : k < L.length := by have := cntD_le step L; omega
      by_cases hc1 : c = 1
      · subst hc1
        have hr0 : r = [] := List.eq_nil_of_length_eq_zero (by omega)
        subst hr0
        have HS := due_step HJ.out.2.2.1 (by rw [hsk, HJ.out.2.2.2.2]) kA hE1 (.slice (some ⟨g, off, none⟩) 0 0) (.int .i64 step) (.inl ⟨rfl, rfl, rfl⟩)
        rw [← hr1] at HS
        obtain ⟨fn, tmps, assign, body, hy, hR⟩ := hY k wr _ HJ.out.1 ⟨hlt, HS⟩ e he'
        have HR := Lib.hid (And.intro HS he')
        simp only [evC, lateE] at hy
        clear HS he' hr1
        go_region
        gi_wp2
        refine hR.mono ?_
        rintro e2 W3 ⟨rfl, hJ3⟩
        gi_wp2
        go_roundw
        case rel => exact ⟨k + 1, by omega, hJ3⟩
        case measure => rw [MS _ _ hJ3, MS _ _ HJ.out.1]; omega
      · have HS := due_step HJ.out.2.2.1 (by rw [hsk, HJ.out.2.2.2.2]) kA hE1 (.slice (some ⟨g, off + 3, none⟩) r.length (c - 1)) (.int .i64 step) (.inr rfl)
        have HS' : DueStep b (sk k) { sk k with script := L.drop (k + 1) } wr (((W2.setCell ⟨b, 11, none⟩ (.slice (some ⟨g, off + 3, none⟩) r.length (c - 1))).setCell ⟨B, 0, none⟩ (.int .i64 step)).drew) := by rw [hr1]; exact HS
        obtain ⟨fn, tmps, assign, body, hy, hR⟩ := hY k wr _ HJ.out.1 ⟨hlt, HS'⟩ e he'
        simp only [evC, lateE] at hy
        clear HS HS' he' hr1
        go_region
        gi_wp2
        refine hR.mono ?_
        rintro e2 W3 ⟨rfl, hJ3⟩
        gi_wp2
        go_roundw
        case rel => exact ⟨k + 1, by omega, hJ3⟩
        case measure => rw [MS _ _ hJ3, MS _ _ HJ.out.1]; omega
    · obtain rfl : k = cntD step L := by omega
      have HJ := Lib.hid (And.intro hJk (And.intro ok hi))
      have hm : Try.prog.follows .mixedOrders = true := by kernel_rfl
      rcases cntD_end step L with he | ⟨e, r, he, hle⟩
      · rw [he] at hsc
        obtain ⟨a, c, rfl, hc, _⟩ := hsc.shape
        simp only [List.length_nil] at e11
        have t1 : decide ((0 : Int) < 0) = false := rfl
        clear hJk ok hi hsc he
        gi_wp2
        gi_big_quiet_th_o (fail)
        gi_wp2
        go_end0
        exact ⟨⟨_, rfl⟩, _, rfl, hJd _ _ _ HJ.out.1⟩
      · rw [he] at hsc
        obtain ⟨g, off, c, rfl, hc, hcs⟩ := hsc.cells (by simp)
        have z0 := hcs 0 (.int .i64 e.at') (by simp [evsC, evC])
        rw [Nat.add_zero] at z0
        simp only [List.length_cons] at e11 hc
        have t1 : decide ((0 : Int) < (r.length : Int) + 1) = true := decide_eq_true (by omega)
        have t2 : decide (e.at' ≤ step) = false := decide_eq_false hle
        clear hJk ok hi hsc he hcs
        gi_wp2
        gi_big_quiet_th_o (fail)
        gi_wp2
        go_end0
        exact ⟨⟨_, rfl⟩, _, rfl, hJd _ _ _ HJ.out.1⟩

end Go.Proofs.Ytgeakpeaohggoaa

/- The bytes of a string, as a list. -/
namespace Go.Mum

theorem toList_loop (bs : ByteArray) : ∀ (n i : Nat) (r : List UInt8), bs.size - i = n → ByteArray.toList.loop bs i r = r.reverse ++ bs.data.toList.drop i := by
  intro n
  induction n with
  | zero =>
    intro i r h
    unfold ByteArray.toList.loop
    rw [if_neg (by omega)]
    have : bs.data.toList.length ≤ i := by simp; have : bs.size = bs.data.size := rfl; omega
    rw [List.drop_eq_nil_of_le this]; simp
  | succ n ih =>
    intro i r h
    unfold ByteArray.toList.loop
    have hi : i < bs.data.toList.length := by simp; have : bs.size = bs.data.size := rfl; omega
    rw [if_pos (by omega), ih (i + 1) _ (by omega), List.drop_eq_getElem_cons hi]
    simp
    rw [ByteArray.get!.eq_def]
    simp at hi
    simp [hi]

theorem toList_data (bs : ByteArray) : bs.toList = bs.data.toList := by
  unfold ByteArray.toList
  rw [toList_loop bs _ 0 [] rfl]; simp

/-- Two strings that differ. -/
theorem strs_differ {a b : List Int} (ha : IsBytes a) (hb : IsBytes b) (h : a ≠ b) : ((strOfNums a).toList == (strOfNums b).toList) = false := by
  rw [beq_eq_false_iff_ne]
  intro e
  rw [toList_data, toList_data] at e
  exact h (strOfNums_inj ha hb (ByteArray.ext (Array.toList_inj.1 e)))

end Go.Mum

/- A row of cells that a call made: block g, n cells, cell j holding f j. -/
namespace Go.Mum
open Go.RowKit

def ArrAt (w : World) (g : Nat) (t : TypeId) (n : Nat) (f : Nat → Value) : Prop :=
  ∃ cs : Array Value, w.heap[g]? = some (.cells cs t (0, 0)) ∧ cs.size = n ∧ ∀ j, j < n → cs[j]? = some (f j)

section
variable {w x : World} {g : Nat} {t : TypeId} {n : Nat} {f : Nat → Value}

theorem ArrAt.lt (h : ArrAt w g t n f) : g < w.heap.size := by obtain ⟨cs, h1, _⟩ := h; exact lt_of_heap h1

theorem ArrAt.same (h : ArrAt w g t n f) (he : x.heap[g]? = w.heap[g]?) : ArrAt x g t n f := by
  obtain ⟨cs, h1, r⟩ := h
  exact ⟨cs, by rw [he]; exact h1, r⟩

theorem ArrAt.keep {l : List Nat} (h : ArrAt w g t n f) (hk : Keep l w x) (hn : g ∉ l) : ArrAt x g t n f := h.same (hk.block g h.lt hn)

theorem ArrAt.cell (h : ArrAt w g t n f) {j : Nat} (hj : j < n) : w.cell? ⟨g, j, none⟩ = some (f j) := by
  obtain ⟨cs, h1, _, h3⟩ := h
  exact cell_of h1 j (h3 j hj)

theorem ArrAt.frozen (h : ArrAt w g t n f) (j : Nat) : w.frozen? ⟨g, j, none⟩ = false := by
  obtain ⟨cs, h1, _⟩ := h
  exact frozen_of h1 j

theorem ArrAt.ext (h : ArrAt w g t n f) {f' : Nat → Value} (he : ∀ j, j < n → f j = f' j) : ArrAt w g t n f' := by
  obtain ⟨cs, h1, h2, h3⟩ := h
  exact ⟨cs, h1, h2, fun j hj => by rw [h3 j hj, he j hj]⟩

theorem ArrAt.set (h : ArrAt w g t n f) (i : Nat) (v : Value) : ArrAt (w.setCell ⟨g, i, none⟩ v) g t n (fun j => if j = i then v else f j) := by
  obtain ⟨cs, h1, h2, h3⟩ := h
  refine ⟨_, heap_set_same h1 i v, by simpa using h2, fun j hj => ?_⟩
  rw [Array.getElem?_setIfInBounds]
  by_cases e : j = i
  · subst e
    simp [h2, hj]
  · rw [if_neg (fun q => e q.symm)]
    show cs[j]? = some (if j = i then v else f j)
    rw [if_neg e, h3 j hj]

theorem ArrAt.ne_of_old {B : Nat} (_h : ArrAt w g t n f) (hB : B ≤ g) {k : Nat} (hk : k < B) : k ≠ g := by omega

/-- A row that 'make' laid, an element being one cell. -/
theorem arrAt_of_made {base : Nat} {z : Value} (hz : z.cells = #[z]) (h : w.ownsRow base t 1 (.slice (some ⟨g, 0, none⟩) n n) n (madeCells z.cells (n * 1)).toList) : ArrAt w g t n (fun _ => z) := by
  rcases h.2 with ⟨h1, _⟩ | ⟨g', cap, cur, h1, _, h3, _, _, h6, h7⟩
  · simp at h1
  · simp only [Value.slice.injEq, Option.some.injEq, Addr.mk.injEq] at h1
    obtain ⟨⟨rfl, _, _⟩, _, rfl⟩ := h1
    refine ⟨cur, h3, by omega, fun j hj => ?_⟩
    have := congrArg (fun l => l[j]?) h7
    simp only [List.getElem?_take, Nat.mul_one, hj, if_true, Array.getElem?_toList] at this
    rw [this, hz, ← Array.getElem?_toList, toList_madeCells_one]
    simp [hj]
end

theorem arrAt_new (w : World) (z : Value) (n : Nat) (t : TypeId) {g : Nat} (hg : g = w.heap.size) : ArrAt (w.alloc (.cells (madeCells #[z] n) t)) g t n (fun _ => z) :=
  ⟨_, heap_alloc_at _ hg, by simp [size_madeCells], fun j hj => by rw [← Array.getElem?_toList, toList_madeCells_one]; simp [hj]⟩

/-- Several blocks at once: what stands behind a contract. -/
theorem Keep.arr {l : List Nat} {w x : World} (hk : Keep l w x) {g : Nat} {t : TypeId} {n : Nat} {f : Nat → Value} (h : ArrAt w g t n f) (hn : g ∉ l) : ArrAt x g t n f := h.keep hk hn

end Go.Mum
