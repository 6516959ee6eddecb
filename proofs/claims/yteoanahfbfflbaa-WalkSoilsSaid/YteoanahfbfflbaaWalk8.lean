/- The memories that the statements on tables are about. -/
import Derived.Test.YteoanahfbfflbaaWalk7
import Derived.Test.YteoanahfbfflbaaRamP7
import Derived.Test.YteoanahfbfflbaaFits2
import Derived.RegionTactic
import Derived.StillTailTactics
import Derived.Outline
namespace Go.Proofs.Yteoanahfbfflbaa
open Go.RowKit Go.Mum
set_option linter.unusedVariables false

/-- An entry of a list: frame, place, where it leads, bits. -/
abbrev Ent := Nat × Nat × Nat × Nat
def ea (n : Nat) (x : Ent) : Nat := x.1 % n * 64 + x.2.1 % 16 * 4
def ev (x : Ent) : Nat := if 2147483648 ≤ x.2.2.2 then x.2.2.2 else x.2.2.1 % 12 * 64 + x.2.2.2 % 64
/-- The bytes of a memory with these entries. -/
def madeL (n : Nat) (l : List Ent) : List Int := l.foldl (fun L x => laid n L (ea n x) (le4 (ev x)) 4) (List.replicate (64 * n) 0)

theorem madeL_snoc (n : Nat) (l : List Ent) (x : Ent) : madeL n (l ++ [x]) = laid n (madeL n l) (ea n x) (le4 (ev x)) 4 := by simp [madeL]

structure EntAt (w : World) (lb o : Nat) (x : Ent) : Prop where
  c0 : w.cell? ⟨lb, o, none⟩ = some (.int .u8 x.1)
  c1 : w.cell? ⟨lb, o + 1, none⟩ = some (.int .u8 x.2.1)
  c2 : w.cell? ⟨lb, o + 2, none⟩ = some (.int .u8 x.2.2.1)
  c3 : w.cell? ⟨lb, o + 3, none⟩ = some (.int .u32 x.2.2.2)
  l0 : x.1 < 256
  l1 : x.2.1 < 256
  l2 : x.2.2.1 < 256
  l3 : x.2.2.2 < 4294967296

/-- A list of entries that came in. -/
def EntsAt (w : World) (a : Option Addr) (es : List Ent) : Prop :=
  es = [] ∨ ∃ lb off, a = some ⟨lb, off, none⟩ ∧ lb < w.heap.size ∧ ∀ i, i < es.length → EntAt w lb (off + i * 4) (es.getD i (0, 0, 0, 0))

theorem EntAt.keep {l : List Nat} {w x : World} {lb o : Nat} {e : Ent} (h : EntAt w lb o e) (hk : Keep l w x) (h1 : lb ∉ l) : EntAt x lb o e :=
  ⟨hk.cell h.c0 h1, hk.cell h.c1 h1, hk.cell h.c2 h1, hk.cell h.c3 h1, h.l0, h.l1, h.l2, h.l3⟩

theorem ents_of_fits {w : World} {B n : Nat} {a : Option Addr} {len cap : Nat} (h : Fits Try.prog w B n 53 [.slice a len cap]) :
    ∃ es, len = es.length ∧ EntsAt w a es ∧ es.length ≤ 9223372036854775807 := by
  rcases h.rows Try.underlying53 4 (by kernel_rfl) (by omega) with rfl | ⟨lb, off, m, rfl, h0, h1, h2, h3, h4, h5⟩
  · exact ⟨[], rfl, .inl rfl, by simp⟩
  · have each : ∀ i, ∃ x : Ent, i < len → EntAt w lb (off + i * 4) x := by
      intro i
      by_cases hi : i < len
      · obtain ⟨ds, hd, hc, hf⟩ := h5 i hi
        obtain ⟨m2, hl, hfs⟩ := hf.struct Try.underlying92
        match ds, hd with
        | [d0, d1, d2, d3], _ =>
          have q1 : Try.prog.cellsOf 5 = 1 := by kernel_rfl
          have q2 : Try.prog.cellsOf 26 = 1 := by kernel_rfl
          obtain ⟨z0, e0, g0⟩ := (hfs _ (.head _)).int Try.underlying5
          obtain ⟨z1, e1, g1⟩ := (hfs _ (.tail _ (.head _))).int Try.underlying5
          obtain ⟨z2, e2, g2⟩ := (hfs _ (.tail _ (.tail _ (.head _)))).int Try.underlying5
          obtain ⟨z3, e3, g3⟩ := (hfs _ (.tail _ (.tail _ (.tail _ (.head _))))).int Try.underlying26
          simp [q1] at e0 e1 e2
          simp [q2] at e3
          subst e0 e1 e2 e3
          have b0 := wf_u8 g0
          have b1 := wf_u8 g1
          have b2 := wf_u8 g2
          have b3 := wf_u32 g3
          refine ⟨(z0.toNat, z1.toNat, z2.toNat, z3.toNat), fun _ => ⟨?_, ?_, ?_, ?_, by simp; omega, by simp; omega, by simp; omega, by simp; omega⟩⟩
          · simp only [Int.toNat_of_nonneg b0.1]; simpa using hc 0 (by omega)
          · simp only [Int.toNat_of_nonneg b1.1]; exact hc 1 (by omega)
          · simp only [Int.toNat_of_nonneg b2.1]; exact hc 2 (by omega)
          · simp only [Int.toNat_of_nonneg b3.1]; exact hc 3 (by omega)
      · exact ⟨(0, 0, 0, 0), fun h => absurd h hi⟩
    refine ⟨(List.range len).map fun i => (each i).choose, by simp, .inr ⟨lb, off, rfl, h4, fun i hi => ?_⟩, by simp; unfold maxLen at h2; omega⟩
    simp at hi
    have := (each i).choose_spec hi
    simpa [List.getD, hi] using this

/-- Both have laid the same bytes: told. -/
theorem both_laid {r fb g q n a al : Nat} {L M : List Int} {w y z : World} (h : Both w r fb g q n L) (hr : RamAt y r fb g (List.range n) (laid n L a M al)) (hd : RefAt z (some ⟨q, 0, none⟩) (laid n L a M al)) (hq : Keep [q] y z) :
    Both z r fb g q n (laid n L a M al) := by
  have hl := laid_length (a := a) (M := M) (al := al) h.len
  have hr' := hr.keep hq (by simpa using h.qs.1.symm) (by simpa using h.qs.2.1.symm) (by simpa using h.qs.2.2.symm)
  obtain ⟨q', e, hqd⟩ := hd.some_of (by rw [hl, h.len]; have := h.n1; omega)
  cases e
  exact h.set hl hr' hqd

def MadePostW (n : Nat) (es : List Ent) (w : World) (e : Ending) (w' : World) : Prop :=
  ∃ r fb g q, w.heap.size ≤ r ∧ w.heap.size ≤ fb ∧ w.heap.size ≤ g ∧ w.heap.size ≤ q ∧ e = .returned (.tuple #[.pointer (some ⟨r, 0, none⟩), .agg #[.slice (some ⟨q, 0, none⟩) (64 * n) (64 * n)], .bool true]) ∧
    Both w' r fb g q n (madeL n (es.take 64)) ∧ Keep [] w w'

theorem ea_ok {n : Nat} (hn : 0 < n) (x : Ent) : ea n x % 4 = 0 ∧ ea n x + 4 ≤ 64 * n := by
  unfold ea
  have := Nat.mod_lt x.1 hn
  have := Nat.mod_lt x.2.1 (show 0 < 16 by decide)
  omega

theorem ea_int {n : Nat} (hn : 4 ≤ n ∧ n ≤ 10) (f p t bt : Nat) : wrap64 (wrap64 ((f : Int) % n * 64) + (p : Int) % 16 * 4) % 4294967296 = (ea n (f, p, t, bt) : Nat) := by
  have h1 := Nat.mod_lt f (show 0 < n by omega)
  have h2 : (f : Int) % n = ((f % n : Nat) : Int) := by simp
  have h3 : (p : Int) % 16 = ((p % 16 : Nat) : Int) := by simp
  have h4 := Nat.mod_lt p (show 0 < 16 by omega)
  rw [h2, h3]
  unfold ea
  simp only
  generalize f % n = fn at h1
  generalize p % 16 = pn at h4
  have hw : ∀ z : Int, 0 ≤ z → z < 9223372036854775808 → wrap64 z = z := fun z _ _ => by unfold wrap64; omega
  rw [hw ((fn : Int) * 64) (by omega) (by omega), hw _ (by omega) (by omega)]
  omega

theorem ev_hi {f p t bt : Nat} (h : (2147483648 : Int) ≤ bt) : ev (f, p, t, bt) = bt := by
  unfold ev
  rw [if_pos (by simp only; omega)]

theorem ev_lo {f p t bt : Nat} (h : ¬ (2147483648 : Int) ≤ bt) : (ev (f, p, t, bt) : Int) = (t : Int) % 12 * 64 + (bt : Int) % 64 := by
  unfold ev
  rw [if_neg (by simp only; omega)]
  simp

set_option maxRecDepth 100000 in
set_option maxHeartbeats 4000000 in
theorem wmade_at {w : World} {s : Option Addr} {c : Nat} {es : List Ent} (hE : EntsAt w s es) (hel : es.length ≤ 9223372036854775807) (z : Nat) (hz : z < 256) :
    Calls Try.prog 30 #[.int .u8 z, .slice s es.length c] w (MadePostW (4 + z % 7) es w) := by
  have HE := Lib.hid hE
  clear hE
  obtain ⟨n, hn⟩ : ∃ n, n = 4 + z % 7 := ⟨_, rfl⟩
  have hn4 : 4 ≤ n ∧ n ≤ 10 := by omega
  have hzn : (4 : Int) + (z : Int) % 7 = (n : Int) := by omega
  rw [← hn]
  clear hn
  go_enter Try.func30, Try.ntmps30
  go_wp2_with fail
  refine (rnew_good n _ (by omega) (by omega)).mono ?_
  rintro e y ⟨r, fb, g, hr, hfb, hg, rfl, hA, hK⟩
  have HY := Lib.hid (And.intro hA hK)
  clear hA hK
  go_wp2_with fail
  refine (fnew_at n _ (by omega)).mono ?_
  rintro e x ⟨rfl, hR, hKx⟩
  go_wp2_with fail
  obtain ⟨bx, hbx⟩ : ∃ bx, bx = x.heap.size := ⟨_, rfl⟩
  obtain ⟨q, hqe⟩ : ∃ q, q = y.heap.size + 1 := ⟨_, rfl⟩
  rw [← hbx, ← hqe]
  have hszy := HY.out.2.size
  have hszx := hKx.size
  simp at hr hfb hg hszy
  have hq : w.heap.size + 1 ≤ q := by omega
  have hfy : x.heap[w.heap.size]? = some (.cells #[.slice none 0 0] 35 (0, 0)) := hKx.heap (HY.out.2.heap (heap_alloc_same w _) (by simp)) (by simp)
  have hK0 : Keep [] w x := ((Keep.refl [] w).alloc _).trans (HY.out.2.trans hKx)
  have hB0 : Both x r fb g q n (madeL n []) := by
    have hlt := HY.out.1.lt
    obtain ⟨q', e, hq'⟩ := hR.some_of (by simp; omega)
    cases e
    subst hqe
    exact ⟨HY.out.1.keep0 hKx, hR, by simp [madeL], ⟨by omega, by omega, by omega⟩, ⟨by omega, by omega⟩, hq'⟩
  have HG : Hid (Both x r fb g q n (madeL n []) ∧ Keep [] w x ∧ x.heap[w.heap.size]? = some (.cells #[.slice none 0 0] 35 (0, 0))) := Lib.hid ⟨hB0, hK0, hfy⟩
  clear hR hKx hK0 hB0 hfy HY hqe
  generalize hx2 : x.alloc (.cells #[.slice (some ⟨q, 0, none⟩) (64 * n) (64 * n)] 35) = x2
  have HB2 : Hid (Both x2 r fb g q n (madeL n []) ∧ Keep [] w x2 ∧ x2.cell? ⟨bx, 0, none⟩ = some (.slice (some ⟨q, 0, none⟩) (64 * n) (64 * n)) ∧ x2.heap[w.heap.size]? = some (.cells #[.slice none 0 0] 35 (0, 0)) ∧ w.heap.size < bx ∧ g < bx ∧ q < bx) := Lib.hid (by
    have hlt := HG.out.1.lt
    have hk := (Keep.refl [] x).alloc (.cells #[.slice (some ⟨q, 0, none⟩) (64 * n) (64 * n)] 35)
    rw [hx2] at hk
    refine ⟨HG.out.1.keep0 hk, HG.out.2.1.trans hk, ?_, hk.heap HG.out.2.2 (by simp), by omega, by omega, by omega⟩
    subst hx2 hbx
    exact cell_of (heap_alloc_same x _) 0 rfl)
  clear hx2 hbx HG hszx hszy
  go_loopw [11, 12, 13, 14] (fun kv _ _ _ wr => ∃ k : Nat, kv = .int .i64 k ∧ k ≤ es.length ∧ k ≤ 64 ∧ Both wr r fb g q n (madeL n (es.take k)) ∧ Keep [] w wr ∧ wr.cell? ⟨bx, 0, none⟩ = some (.slice (some ⟨q, 0, none⟩) (64 * n) (64 * n)) ∧ wr.heap[w.heap.size]? = some (.cells #[.slice none 0 0] 35 (0, 0)) ∧ w.heap.size < bx ∧ g < bx ∧ q < bx) (fun kv _ _ _ _ => 64 - (intOf kv).toNat)
  case atStart => exact ⟨0, rfl, by omega, by omega, HB2.out⟩
  case round =>
    clear HB2
    obtain ⟨k, rfl, hk, hk64, hB, hK, hcb, hcw, hwb, hgb, hqb⟩ := hrel
    have HR := Lib.hid (And.intro hB hK)
    have HW := Lib.hid hcw
    clear hB hK hcw
    by_cases hlt : k < es.length
    · by_cases h64 : k < 64
      · obtain ⟨lb, off, rfl, hlb, hst⟩ : ∃ lb off, s = some ⟨lb, off, none⟩ ∧ lb < w.heap.size ∧ ∀ i, i < es.length → EntAt w lb (off + i * 4) (es.getD i (0, 0, 0, 0)) := by
          rcases HE.out with h | h
          · rw [h] at hlt; exact absurd hlt (by simp)
          · exact h
        have hs := (hst k hlt).keep HR.out.2 (by simp)
        have hmx : madeL n (es.take (k + 1)) = laid n (madeL n (es.take k)) (ea n (es.getD k (0, 0, 0, 0))) (le4 (ev (es.getD k (0, 0, 0, 0)))) 4 := by
          have e : es.take (k + 1) = es.take k ++ [es.getD k (0, 0, 0, 0)] := by
            rw [List.take_succ_eq_append_getElem hlt]
            simp [List.getD, hlt]
          rw [e, madeL_snoc]
        have hly : layB n (ea n (es.getD k (0, 0, 0, 0))) (le4 (ev (es.getD k (0, 0, 0, 0)))).length 4 = true := layB_yes ⟨(ea_ok (by omega) _).1, (ea_ok (by omega) _).2⟩
        have hea : ea n (es.getD k (0, 0, 0, 0)) < 4294967296 := by have := (ea_ok (n := n) (by omega) (es.getD k (0, 0, 0, 0))).2; omega
        have hev : ev (es.getD k (0, 0, 0, 0)) < 4294967296 := by have := hs.l3; unfold ev; split <;> omega
        generalize es.getD k (0, 0, 0, 0) = en at hs hmx hly hea hev
        obtain ⟨f, p, t, bt⟩ := en
        obtain ⟨c0, c1, c2, c3, l0, l1, l2, l3⟩ := hs
        simp only at c0 c1 c2 c3 l0 l1 l2 l3
        obtain ⟨a, hae⟩ : ∃ a, a = ea n (f, p, t, bt) := ⟨_, rfl⟩
        obtain ⟨v, hve⟩ : ∃ v, v = ev (f, p, t, bt) := ⟨_, rfl⟩
        rw [← hae, ← hve] at hmx hly
        rw [← hae] at hea
        rw [← hve] at hev
        have HL := Lib.hid (And.intro hmx hly)
        clear hmx hly hst
        go_wp2_with fail
        obtain ⟨ex, hex⟩ : ∃ ex, ex = wr.heap.size := ⟨_, rfl⟩
        rw [← hex]
        have hbl : bx < ex := by have := World.block_lt_of_cell? wr _ hcb; subst hex; simpa using this
        generalize hx2 : wr.alloc (.cells #[.int .u8 f, .int .u8 p, .int .u8 t, .int .u32 bt] 92) = w2
        have HX : Hid (Keep [] wr w2 ∧ w2.cell? ⟨ex, 0, none⟩ = some (.int .u8 f) ∧ w2.cell? ⟨ex, 1, none⟩ = some (.int .u8 p) ∧ w2.cell? ⟨ex, 2, none⟩ = some (.int .u8 t) ∧ w2.cell? ⟨ex, 3, none⟩ = some (.int .u32 bt)) := Lib.hid (by
          have hk := (Keep.refl [] wr).alloc (.cells #[.int .u8 f, .int .u8 p, .int .u8 t, .int .u32 bt] 92)
          rw [hx2] at hk
          subst hx2 hex
          exact ⟨hk, cell_of (heap_alloc_same wr _) 0 rfl, cell_of (heap_alloc_same wr _) 1 rfl, cell_of (heap_alloc_same wr _) 2 rfl, cell_of (heap_alloc_same wr _) 3 rfl⟩)
        clear hx2 hex c0 c1 c2 c3
        obtain ⟨-, c0, c1, c2, c3⟩ := HX.out
        have hcb2 := HX.out.1.cell hcb (by simp)
        have HC : Hid (∀ x, Keep [] wr x → Calls Try.prog 25 #[.pointer (some ⟨r, 0, none⟩), .int .u32 a, .int .u32 v] x (RPost r fb g n (madeL n (es.take k)) a (le4 v) 4 x)) := Lib.hid fun x hx => bsetword_r (HR.out.1.keep0 hx) a hea v hev
        have HD : Hid (∀ x, Keep [g] wr x → Calls Try.prog 49 #[.agg #[.slice (some ⟨q, 0, none⟩) (64 * n) (64 * n)], .int .u32 a, .int .u32 v] x (DPost q n (madeL n (es.take k)) a (le4 v) 4 x)) := Lib.hid fun x hx => bsetword_d (RefN.mk (HR.out.1.ref.keep hx (by simpa using HR.out.1.qs.2.2)) HR.out.1.len) a hea v hev
        have hae2 : wrap64 (wrap64 ((f : Int) % n * 64) + (p : Int) % 16 * 4) % 4294967296 = a := by rw [hae]; exact ea_int hn4 f p t bt
        clear hae
        by_cases hb : (2147483648 : Int) ≤ bt
        · obtain rfl : bt = v := by rw [hve]; exact (ev_hi hb).symm
          clear hve
          go_quiet (fail)
          go_wp2_with fail
          refine (HC.out _ (HX.out.1.drewN nq)).mono ?_
          rintro e y1 ⟨rfl, hr1, hk1⟩
          rw [HL.out.2]
          have hc1 := (((Keep.refl [] w2).drewN nq).weaken (l' := [g]) (by simp) |>.trans hk1).cell hcb2 (by simp; omega)
          have H1 := Lib.hid (And.intro hr1 (((HX.out.1.drewN nq).weaken (l' := [g]) (by simp)).trans hk1))
          clear hr1 hk1
          go_wp2_with fail
          refine (HD.out _ H1.out.2).mono ?_
          rintro e y2 ⟨rfl, hr2, hk2⟩
          rw [HL.out.2]
          have hc2 := hk2.cell hc1 (by simp; omega)
          have hB3 := both_laid (HR.out.1) H1.out.1 hr2 hk2
          rw [← HL.out.1] at hB3
          have hK3 : Keep [g, q] wr y2 := (H1.out.2.weaken (l' := [g, q]) (by simp)).trans (hk2.weaken (l' := [g, q]) (by simp))
          have HF := Lib.hid (And.intro hB3 (And.intro (HR.out.2.then hK3 (fun k hk hlt => by simp at hk; omega)) (hK3.heap HW.out (by simp; omega))))
          clear hB3 hK3 hr2 hk2 hc1
          go_wp2_with fail
          go_roundw
          case rel => exact ⟨k + 1, by go_num, by omega, by omega, HF.out.1, HF.out.2.1, hc2, HF.out.2.2, hwb, hgb, hqb⟩
          case measure => simp [intOf]; omega
        · have hve2 : (t : Int) % 12 * 64 + (bt : Int) % 64 = v := by rw [hve]; exact (ev_lo hb).symm
          clear hve
          go_quiet (fail)
          go_wp2_with fail
          refine (HC.out _ (HX.out.1.drewN nq)).mono ?_
          rintro e y1 ⟨rfl, hr1, hk1⟩
          rw [HL.out.2]
          have hc1 := (((Keep.refl [] w2).drewN nq).weaken (l' := [g]) (by simp) |>.trans hk1).cell hcb2 (by simp; omega)
          have H1 := Lib.hid (And.intro hr1 (((HX.out.1.drewN nq).weaken (l' := [g]) (by simp)).trans hk1))
          clear hr1 hk1
          go_wp2_with fail
          refine (HD.out _ H1.out.2).mono ?_
          rintro e y2 ⟨rfl, hr2, hk2⟩
          rw [HL.out.2]
          have hc2 := hk2.cell hc1 (by simp; omega)
          have hB3 := both_laid (HR.out.1) H1.out.1 hr2 hk2
          rw [← HL.out.1] at hB3
          have hK3 : Keep [g, q] wr y2 := (H1.out.2.weaken (l' := [g, q]) (by simp)).trans (hk2.weaken (l' := [g, q]) (by simp))
          have HF := Lib.hid (And.intro hB3 (And.intro (HR.out.2.then hK3 (fun k hk hlt => by simp at hk; omega)) (hK3.heap HW.out (by simp; omega))))
          clear hB3 hK3 hr2 hk2 hc1
          go_wp2_with fail
          go_roundw
          case rel => exact ⟨k + 1, by go_num, by omega, by omega, HF.out.1, HF.out.2.1, hc2, HF.out.2.2, hwb, hgb, hqb⟩
          case measure => simp [intOf]; omega
      · have h64' : ¬ ((k : Int) < 64) := by omega
        have hmk : es.take k = es.take 64 := by
          obtain rfl : k = 64 := by omega
          rfl
        have hfz := frozen_of HW.out 0
        have hcw : wr.cell? ⟨w.heap.size, 0, none⟩ = some (.slice none 0 0) := cell_of HW.out 0 rfl
        have hcb' : wr.drew.cell? ⟨bx, 0, none⟩ = some (.slice (some ⟨q, 0, none⟩) (64 * n) (64 * n)) := hcb
        have hcw' : wr.drew.cell? ⟨w.heap.size, 0, none⟩ = some (.slice none 0 0) := hcw
        have hfz' : wr.drew.frozen? ⟨w.heap.size, 0, none⟩ = false := hfz
        have HF : Hid (MadePostW n es w (.returned (.tuple #[.pointer (some ⟨r, 0, none⟩), .agg #[.slice (some ⟨q, 0, none⟩) (64 * n) (64 * n)], .bool true])) (wr.drew.setCell ⟨w.heap.size, 0, none⟩ (.slice (some ⟨q, 0, none⟩) (64 * n) (64 * n)))) := Lib.hid (by
          have hk := (Keep.refl [w.heap.size] wr).drew.setCell (p := ⟨w.heap.size, 0, none⟩) (.inl (by simp)) (.slice (some ⟨q, 0, none⟩) (64 * n) (64 * n))
          refine ⟨r, fb, g, q, by omega, by omega, by omega, by omega, rfl, ?_, HR.out.2.drew.setCell (.inr (by simp)) _⟩
          rw [← hmk]
          exact HR.out.1.keep hk (by simp; omega) (by simp; omega) (by simp; omega) (by simp; omega))
        have hcs : (wr.setCell ⟨w.heap.size, 0, none⟩ (.slice (some ⟨q, 0, none⟩) (64 * n) (64 * n))).cell? ⟨w.heap.size, 0, none⟩ = some (.slice (some ⟨q, 0, none⟩) (64 * n) (64 * n)) := World.cell?_setCell_same _ _ _ hcw
        clear hmk
        go_wp2_with fail
        go_region
        go_wp2_with fail
        exact bodyPost_ret (v := .tuple #[.pointer (some ⟨r, 0, none⟩), .agg #[.slice (some ⟨q, 0, none⟩) (64 * n) (64 * n)], .bool true]) (by simp [results, Try.results30, go_sem, hcs]) rfl HF.out
    · have hlt' : ¬ ((k : Int) < (es.length : Int)) := by omega
      have hmk : es.take k = es.take 64 := by
        rw [List.take_of_length_le (by omega), List.take_of_length_le (by omega)]
      have hfz := frozen_of HW.out 0
      have hcw : wr.cell? ⟨w.heap.size, 0, none⟩ = some (.slice none 0 0) := cell_of HW.out 0 rfl
      have hcb' : wr.drew.cell? ⟨bx, 0, none⟩ = some (.slice (some ⟨q, 0, none⟩) (64 * n) (64 * n)) := hcb
      have hcw' : wr.drew.cell? ⟨w.heap.size, 0, none⟩ = some (.slice none 0 0) := hcw
      have hfz' : wr.drew.frozen? ⟨w.heap.size, 0, none⟩ = false := hfz
      have HF : Hid (MadePostW n es w (.returned (.tuple #[.pointer (some ⟨r, 0, none⟩), .agg #[.slice (some ⟨q, 0, none⟩) (64 * n) (64 * n)], .bool true])) (wr.drew.setCell ⟨w.heap.size, 0, none⟩ (.slice (some ⟨q, 0, none⟩) (64 * n) (64 * n)))) := Lib.hid (by
        have hk := (Keep.refl [w.heap.size] wr).drew.setCell (p := ⟨w.heap.size, 0, none⟩) (.inl (by simp)) (.slice (some ⟨q, 0, none⟩) (64 * n) (64 * n))
        refine ⟨r, fb, g, q, by omega, by omega, by omega, by omega, rfl, ?_, HR.out.2.drew.setCell (.inr (by simp)) _⟩
        rw [← hmk]
        exact HR.out.1.keep hk (by simp; omega) (by simp; omega) (by simp; omega) (by simp; omega))
      have hcs : (wr.setCell ⟨w.heap.size, 0, none⟩ (.slice (some ⟨q, 0, none⟩) (64 * n) (64 * n))).cell? ⟨w.heap.size, 0, none⟩ = some (.slice (some ⟨q, 0, none⟩) (64 * n) (64 * n)) := World.cell?_setCell_same _ _ _ hcw
      clear hmk
      go_wp2_with fail
      go_region
      go_wp2_with fail
      exact bodyPost_ret (v := .tuple #[.pointer (some ⟨r, 0, none⟩), .agg #[.slice (some ⟨q, 0, none⟩) (64 * n) (64 * n)], .bool true]) (by simp [results, Try.results30, go_sem, hcs]) rfl HF.out
end Go.Proofs.Yteoanahfbfflbaa
