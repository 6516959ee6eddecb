/- The law DevBlocks, walked. -/
import Derived.Test.YtgeakpeaohggoaaM22
import Derived.Test.YtgeakpeaohggoaaM09
namespace Go.Proofs.Ytgeakpeaohggoaa
open Go.RowKit Go.Mum
set_option linter.unusedVariables false
set_option linter.unusedSimpArgs false
set_option maxRecDepth 100000

def evA : Ev := ⟨1, 2, 0⟩
def evB : Ev := ⟨2, 2, 0⟩
def D0 : List Int := List.replicate 512 0

theorem rd_block {w : World} {g n : Nat} {xs : List Value} {t : TypeId} (h : w.heap[g]? = some (.cells xs.toArray t (0, 0))) {sz : Nat} (hl : xs.length = n * sz) (h1 : ∀ u ∈ xs, u.oneCell' = true) (hm : n ≤ maxLen) : Rd w sz (some ⟨g, 0, none⟩) n n xs :=
  ⟨hl, h1, ⟨Nat.le_refl _, hm⟩, (fun h => by cases h), .inr ⟨g, 0, rfl, fun j u hu => by rw [Nat.zero_add]; exact cell_of h j (by simpa using hu)⟩⟩

theorem row_block {w : World} {g : Nat} {M : List Int} {t : TypeId} (h : w.heap[g]? = some (.cells (u8s M).toArray t (0, 0))) (hb : IsBytes M) (hm : M.length ≤ maxLen) : Row w (some ⟨g, 0, none⟩) M.length M :=
  ⟨hb, ⟨Nat.le_refl _, hm⟩, .inr (.inr ⟨g, 0, rfl, fun i hi => by rw [Nat.zero_add]; exact cell_of h i (by simp [u8s, List.getElem?_eq_getElem hi, List.getD])⟩)⟩

theorem memL_bytes : IsBytes memL := by
  intro x hx
  simp only [memL, memP, Nat.sub_self, List.replicate_zero, List.append_nil, List.mem_map] at hx
  obtain ⟨i, _, rfl⟩ := hx
  exact memB_byte i

theorem come1M_two {n : Nat} {t : CT} {e : Ev} (h : e.kd = 2) (hs : t.s.st = 1) (hg : goodN t.s n) (hk : t.s.kd ≠ 1) :
    come1M n t e = ⟨{ t.s with st := 0, disk := splice t.s.disk (64 * t.s.fr) ((t.L.drop t.s.to).take 64), bits := t.s.bits ||| 4 }, t.L, t.fs⟩ := by
  simp [come1M, h, hs, hg, hk]

theorem come1M_one {n : Nat} {t : CT} {e : Ev} (h : e.kd = 2) (hs : t.s.st = 1) (hg : goodN t.s n) (hk : t.s.kd = 1) :
    come1M n t e = ⟨{ t.s with st := 0, bits := t.s.bits ||| 4 }, splice t.L t.s.to (blkOf t.s), t.fs ++ [(t.s.to : Int) / 64]⟩ := by
  simp [come1M, h, hs, hg, hk]

theorem comeM_one {n : Nat} {s : DS} {L : List Int} {e : Ev} {r : List Ev} (h : s.script = e :: r) : comeM n s L 1 = setScr (come1M n ⟨s, L, []⟩ e) r := by
  unfold comeM; rw [h]; rfl

/-- The states of the devices, one behind the other. -/
def bs3 (b f : Nat) : DS := writeS (writeS (writeS (newD [evA, evB] D0) 2 b) 3 (64 * f)) 4 2
def bs4 (b f : Nat) : CT := comeM 5 (bs3 b f) memL (cntD 1 (bs3 b f).script)
def bs6 (b f t : Nat) : DS := writeS (writeS (bs4 b f).s 3 (64 * t)) 4 1
def bs7 (b f t : Nat) : CT := comeM 5 (bs6 b f t) memL (cntD 2 (bs6 b f t).script)

def frmF (f : Nat) : List Int := (memL.drop (64 * f)).take 64
theorem frmF_length {f : Nat} (hf : f < 5) : (frmF f).length = 64 := by unfold frmF; rw [List.length_take, List.length_drop, memL, memP_length (by omega)]; omega

theorem bs3_eq (b f : Nat) : bs3 b f = ⟨0, 0, [], D0, b, 64 * f, 1, 2, b, 64 * f, [evA, evB], []⟩ := rfl

theorem bs4_eq {b f : Nat} (hb : b < 8) (hf : f < 5) : bs4 b f = ⟨⟨4, 0, [], splice D0 (64 * b) (frmF f), b, 64 * f, 0, 2, b, 64 * f, [evB], []⟩, memL, []⟩ := by
  have hg : goodN (bs3 b f) 5 := by
    rw [bs3_eq]; unfold goodN
    refine ⟨?_, ?_, ?_⟩
    · show b < D0.length / 64; rw [show D0.length = 512 from List.length_replicate ..]; omega
    · show 64 * f % 64 = 0; omega
    · show 64 * f < 64 * 5; omega
  have hc : cntD 1 (bs3 b f).script = 1 := by rw [bs3_eq]; rfl
  unfold bs4
  rw [hc, comeM_one (e := evA) (r := [evB]) rfl, come1M_two rfl rfl hg (by show (2 : Nat) ≠ 1; omega)]
  simp only [setScr, frmF]
  rw [bs3_eq]
  simp

theorem bs6_eq {b f t : Nat} (hb : b < 8) (hf : f < 5) : bs6 b f t = ⟨4, 0, [], splice D0 (64 * b) (frmF f), b, 64 * t, 1, 1, b, 64 * t, [evB], []⟩ := by
  unfold bs6; rw [bs4_eq hb hf]; rfl

theorem blk6 {b f t : Nat} (hb : b < 8) (hf : f < 5) : blkOf (bs6 b f t) = frmF f := by
  rw [bs6_eq hb hf]
  unfold blkOf
  show ((splice D0 (64 * b) (frmF f)).drop (64 * b)).take 64 = frmF f
  unfold splice
  have h1 : (D0.take (64 * b)).length = 64 * b := by rw [List.length_take, show D0.length = 512 from List.length_replicate ..]; omega
  rw [List.drop_append_of_le_length (by omega), List.drop_eq_nil_of_le (by omega), List.nil_append, List.take_append_of_le_length (by rw [frmF_length hf]; omega), List.take_of_length_le (by rw [frmF_length hf]; omega)]

theorem bs7_eq {b f t : Nat} (hb : b < 8) (hf : f < 5) (ht : t < 5) : bs7 b f t = ⟨⟨4, 0, [], splice D0 (64 * b) (frmF f), b, 64 * t, 0, 1, b, 64 * t, [], []⟩, splice memL (64 * t) (frmF f), [(t : Int)]⟩ := by
  have hl : (splice D0 (64 * b) (frmF f)).length = 512 := by rw [length_splice _ _ _ (by rw [frmF_length hf, show D0.length = 512 from List.length_replicate ..]; omega)]; exact List.length_replicate ..
  have hg : goodN (bs6 b f t) 5 := by
    rw [bs6_eq hb hf]; unfold goodN
    refine ⟨?_, ?_, ?_⟩
    · show b < (splice D0 (64 * b) (frmF f)).length / 64; rw [hl]; omega
    · show 64 * t % 64 = 0; omega
    · show 64 * t < 64 * 5; omega
  have hc : cntD 2 (bs6 b f t).script = 1 := by rw [bs6_eq hb hf]; rfl
  have hbk := blk6 (t := t) hb hf
  have h6 := bs6_eq (t := t) hb hf
  unfold bs7
  rw [hc, comeM_one (e := evB) (r := []) (by rw [h6]), come1M_one rfl (by rw [h6]) hg (by rw [h6])]
  simp only [hbk]
  rw [h6]
  simp only [List.nil_append]
  rw [show ((64 * t : Nat) : Int) / 64 = (t : Int) by omega]
  simp only [setScr]
  simp

theorem memL_length : memL.length = 320 := by rw [memL, memP_length (by omega)]

theorem block_splice {L M : List Int} {p k : Nat} (hM : M.length = 64) (h : 64 * p + 64 ≤ L.length) : ((splice L (64 * p) M).drop (64 * k)).take 64 = if k = p then M else (L.drop (64 * k)).take 64 := by
  apply List.ext_getElem?
  intro j
  rw [List.getElem?_take]
  by_cases hj : j < 64
  · rw [if_pos hj, List.getElem?_drop, splice_get (by omega)]
    by_cases hk : k = p
    · subst hk
      rw [if_pos rfl, if_neg (by omega), if_pos (by omega), show 64 * k + j - 64 * k = j by omega]
    · rw [if_neg hk, List.getElem?_take, if_pos hj, List.getElem?_drop]
      by_cases h1 : 64 * k + j < 64 * p
      · rw [if_pos h1]
      · rw [if_neg h1, if_neg (by omega)]
  · rw [if_neg hj]
    by_cases hk : k = p
    · rw [if_pos hk, List.getElem?_eq_none (by omega)]
    · rw [if_neg hk, List.getElem?_take, if_neg hj]

theorem ref5 {W : World} {q : Nat} (h2 : W.heap[q]? = some (.cells (u8s memL).toArray 5 (0, 0))) (k : Nat) (hk : k < 5) :
    Calls Try.prog 23 #[.agg #[.slice (some ⟨q, 0, none⟩) 320 320], .int .i64 (k : Nat)] W fun e w' => ∃ a c, e = .returned (.slice a 64 c) ∧ Row w' a c ((memL.drop (64 * k)).take 64) ∧ Keep [] W w' := by
  have C := ref_frame (n := 5) h2 memL_bytes memL_length (by omega) k hk
  rw [show 64 * 5 = 320 from rfl] at C
  exact C

def refR (q b10 : Nat) : World → Prop := fun z => z.heap[q]? = some (.cells (u8s memL).toArray 5 (0, 0)) ∧ z.heap[b10]? = some (.cells #[.slice (some ⟨q, 0, none⟩) 320 320] 55 (0, 0))

theorem fr_ref (q b10 : Nat) : Fr (refR q b10) [q, b10] := fun x y l h hk hn => ⟨hk.heap h.1 (fun hm => hn _ hm (by simp)), hk.heap h.2 (fun hm => hn _ hm (by simp))⟩

set_option maxHeartbeats 8000000 in
theorem DevBlocks_walk (a0 a1 a2 : Int) (w : World) (w0 : (Lit.int .u8 a0).wf = true) (w1 : (Lit.int .u8 a1).wf = true) (w2 : (Lit.int .u8 a2).wf = true) :
    Calls Try.prog 6 #[.int .u8 a0, .int .u8 a1, .int .u8 a2] w fun e w' => e = .returned (.bool true) ∧ Below w.heap.size w w' := by
  have h0 := wf_u8 w0
  have h1 := wf_u8 w1
  have h2 := wf_u8 w2
  obtain ⟨b, hb, hb8⟩ : ∃ b : Nat, a0 % 8 = (b : Int) ∧ b < 8 := ⟨(a0 % 8).toNat, by omega, by omega⟩
  obtain ⟨f, hf, hf5⟩ : ∃ f : Nat, a1 % 5 = (f : Int) ∧ f < 5 := ⟨(a1 % 5).toNat, by omega, by omega⟩
  obtain ⟨t, ht, ht5⟩ : ∃ t : Nat, a2 % 5 = (t : Int) ∧ t < 5 := ⟨(a2 % 5).toNat, by omega, by omega⟩
  have m0 : a0.tmod 8 = (b : Int) := by rw [Int.tmod_eq_emod_of_nonneg (by omega)]; exact hb
  have m1 : a1.tmod 5 = (f : Int) := by rw [Int.tmod_eq_emod_of_nonneg (by omega)]; exact hf
  have m2 : a2.tmod 5 = (t : Int) := by rw [Int.tmod_eq_emod_of_nonneg (by omega)]; exact ht
  have x0 : IntKind.u32.wrap (b : Int) = (b : Int) := by rw [IntKind.wrap_u32]; omega
  have x1 : IntKind.u32.wrap (f : Int) = (f : Int) := by rw [IntKind.wrap_u32]; omega
  have x2 : IntKind.u32.wrap (t : Int) = (t : Int) := by rw [IntKind.wrap_u32]; omega
  clear w0 w1 w2 h0 h1 h2 hb hf ht
  have hmk : ∀ W : World, (Instr.makeSlice 22 (.int .i64 512) (.int .i64 512)).run Try.prog W = .ok (.slice (some ⟨W.heap.size, 0, none⟩) 512 512) (W.alloc (.cells (u8s D0).toArray 5)) := make_u8 512 (by omega) 512 rfl
  go_enter Try.func6, Try.ntmps6
  go_wp2_with fail
  have hs0 : (w.alloc (.cells #[.int .i64 1, .int .i64 2, .int .u8 0, .int .i64 2, .int .i64 2, .int .u8 0] 25)).heap[w.heap.size]? = some (.cells #[.int .i64 1, .int .i64 2, .int .u8 0, .int .i64 2, .int .i64 2, .int .u8 0] 25 (0, 0)) := heap_alloc_at _ rfl
  have hs1 : ((w.alloc (.cells #[.int .i64 1, .int .i64 2, .int .u8 0, .int .i64 2, .int .i64 2, .int .u8 0] 25)).alloc (.cells (u8s D0).toArray 5)).heap[w.heap.size]? = some (.cells (evsC [evA, evB]).toArray 25 (0, 0)) := heap_alloc_other _ hs0
  have hs2 : ((w.alloc (.cells #[.int .i64 1, .int .i64 2, .int .u8 0, .int .i64 2, .int .i64 2, .int .u8 0] 25)).alloc (.cells (u8s D0).toArray 5)).heap[w.heap.size + 1]? = some (.cells (u8s D0).toArray 5 (0, 0)) := heap_alloc_at _ (by simp)
  have kY : Keep [] w ((w.alloc (.cells #[.int .i64 1, .int .i64 2, .int .u8 0, .int .i64 2, .int .i64 2, .int .u8 0] 25)).alloc (.cells (u8s D0).toArray 5)) := ((Keep.refl _ _).alloc _).alloc _
  obtain ⟨n1, hn1⟩ : ∃ n, n = w.heap.size := ⟨_, rfl⟩
  rw [← hn1] at hs1 hs2 ⊢
  generalize (w.alloc (.cells #[.int .i64 1, .int .i64 2, .int .u8 0, .int .i64 2, .int .i64 2, .int .u8 0] 25)).alloc (.cells (u8s D0).toArray 5) = y at hs1 hs2 kY ⊢
  have hD0 : IsBytes D0 := fun x hx => by rw [D0, List.mem_replicate] at hx; omega
  have hDl : D0.length = 512 := List.length_replicate ..
  have N1 := new_ok (w := y) (a := some ⟨n1, 0, none⟩) (c := 2) (L := [evA, evB]) (rd_block hs1 rfl (evsC_one _) (by show 2 ≤ maxLen; unfold maxLen; omega)) (by simp [evA, evB, Ev.Ok]) (row_block hs2 hD0 (by rw [hDl]; unfold maxLen; omega)) (by rw [hDl]; decide)
  rw [hDl] at N1
  refine Calls.mono N1 ?_
  rintro e y1 ⟨d, F, rfl, hd, hk1, hf1⟩
  have HD1 := Lib.hid (And.intro hd (And.intro (kY.trans hk1) (fun k hk => Nat.le_trans kY.size (hf1 k hk))))
  clear hs0 hs1 hs2 kY hD0 hDl N1 hn1 hd hk1 hf1
  go_wp2_with fail
  refine (memory_at _).mono ?_
  rintro e y2 ⟨r, fb, g, q, hr, hfb, hg, hq, rfl, hB, hk2⟩
  obtain ⟨hDQ, hrq, hfbq⟩ := dq_make HD1.out.1 HD1.out.2.1 HD1.out.2.2 hB hk2 hr hfb hg hq
  have hgw : w.heap.size ≤ q := Nat.le_trans HD1.out.2.1.size hq
  have HQA := Lib.hid (And.intro hDQ (And.intro hrq (And.intro hfbq hgw)))
  clear hDQ hrq hfbq hgw hB hk2 hr hfb hg hq
  go_wp2_with fail
  obtain ⟨b10, hb10⟩ : ∃ b, b = y2.heap.size := ⟨_, rfl⟩
  rw [← hb10]
  generalize hz : World.alloc y2 _ = z
  have HQ0 : Hid (DQ w z d (newD [evA, evB] D0) r fb g 5 memL (refR q b10) [q, b10]) := Lib.hid (by
    have hk : Keep [] y2 z := by rw [← hz]; exact (Keep.refl _ _).alloc _
    have h10 : z.heap[b10]? = some (.cells #[.slice (some ⟨q, 0, none⟩) 320 320] 55 (0, 0)) := by rw [← hz]; exact heap_alloc_at _ hb10
    have hq := HQA.out.1.other
    refine HQA.out.1.turn hk (by simp) (by simpa using ⟨HQA.out.2.1, HQA.out.2.2.1⟩) ⟨hk.heap hq (by simp), h10⟩ (fun j hj => ?_)
    simp only [List.mem_cons, List.not_mem_nil, or_false] at hj
    rcases hj with rfl | rfl
    · exact .inl (by simp)
    · exact .inr ⟨by omega, lt_of_heap h10⟩)
  have HFR := Lib.hid (fr_ref q b10)
  clear hz hb10 HQA HD1
  have p1 : IntKind.u32.wrap (64 * (f : Int)) = ((64 * f : Nat) : Int) := by rw [IntKind.wrap_u32]; omega
  have p2 : IntKind.u32.wrap (64 * (t : Int)) = ((64 * t : Nat) : Int) := by rw [IntKind.wrap_u32]; omega
  go_wp2_with fail
  refine (dq_write HFR.out HQ0.out 2 (b) (by omega) (by simp [newD])).mono ?_
  rintro e v1 ⟨⟨u1', rfl⟩, hq1⟩
  have HQ1 := Lib.hid hq1
  clear hq1 HQ0
  go_wp2_with fail
  refine (dq_write HFR.out HQ1.out 3 (64 * f) (by omega) (by simp [writeS, newD])).mono ?_
  rintro e v2 ⟨⟨u2', rfl⟩, hq2⟩
  have HQ2 := Lib.hid hq2
  clear hq2 HQ1
  go_wp2_with fail
  refine (dq_write HFR.out HQ2.out 4 (2) (by omega) (by simp [writeS, newD])).mono ?_
  rintro e v3 ⟨⟨u3', rfl⟩, hq3⟩
  have HQ3 : Hid (DQ w v3 d (bs3 b f) r fb g 5 memL (refR q b10) [q, b10]) := Lib.hid hq3
  clear hq3 HQ2
  go_wp2_with fail
  refine (dq_come HFR.out HQ3.out 1 (by omega)).mono ?_
  rintro e v4 ⟨ev4, fv4, rfl, hb4, hf4, -, hq4⟩
  have HQ4 : Hid (DQ w v4 d (bs4 b f).s r fb g 5 memL (refR q b10) [q, b10]) := Lib.hid (by
    have h : DQ w v4 d (bs4 b f).s r fb g 5 (bs4 b f).L (refR q b10) [q, b10] := hq4
    rw [show (bs4 b f).L = memL by rw [bs4_eq hb8 hf5]] at h
    exact h)
  obtain ⟨fa4, fc4, hfv4, -, -⟩ := hf4.shape
  rw [show (comeM 5 (bs3 b f) memL (cntD 1 (bs3 b f).script)).fs.length = 0 by rw [show comeM 5 (bs3 b f) memL (cntD 1 (bs3 b f).script) = bs4 b f from rfl, bs4_eq hb8 hf5]; rfl] at hfv4
  obtain ⟨ea4, ec4, hev4, -, -⟩ := hb4.shape
  generalize cntD 1 (bs3 b f).script = n4 at hev4
  subst hfv4 hev4
  clear hb4 hf4 hq4 HQ3
  go_wp2_with fail
  refine (dq_write HFR.out HQ4.out 3 (64 * t) (by omega) (by rw [bs4_eq hb8 hf5]; simp)).mono ?_
  rintro e v5 ⟨⟨u5', rfl⟩, hq5⟩
  have HQ5 := Lib.hid hq5
  clear hq5 HQ4
  go_wp2_with fail
  refine (dq_write HFR.out HQ5.out 4 (1) (by omega) (by rw [bs4_eq hb8 hf5]; simp [writeS])).mono ?_
  rintro e v6 ⟨⟨u6', rfl⟩, hq6⟩
  have HQ6 : Hid (DQ w v6 d (bs6 b f t) r fb g 5 memL (refR q b10) [q, b10]) := Lib.hid hq6
  clear hq6 HQ5
  go_wp2_with fail
  refine (dq_in HQ6.out 4).mono ?_
  rintro e v6' ⟨rfl, rfl⟩
  rw [show inS (bs6 b f t) 4 = 1 by rw [bs6_eq hb8 hf5]; rfl]
  go_wp2_with fail
  refine (dq_come HFR.out HQ6.out 2 (by omega)).mono ?_
  rintro e v7 ⟨ev7, fv7, rfl, hb7, hf7, -, hq7⟩
  have hc7 : comeM 5 (bs6 b f t) memL (cntD 2 (bs6 b f t).script) = bs7 b f t := rfl
  rw [hc7] at hf7 hq7
  rw [show (bs7 b f t).fs = [(t : Int)] by rw [bs7_eq hb8 hf5 ht5]] at hf7
  rw [show (bs7 b f t).L = splice memL (64 * t) (frmF f) by rw [bs7_eq hb8 hf5 ht5]] at hq7
  obtain ⟨fa7, fc7, hfv7, hfc7, -⟩ := hf7.shape
  subst hfv7
  have hr7 := hf7.rd (i64s_one _)
  obtain hz | ⟨fg, foff, rfl, hcell⟩ := hr7.at'
  · simp at hz
  have hct : v7.cell? ⟨fg, foff, none⟩ = some (.int .i64 t) := by have := hcell 0 (.int .i64 t) (by simp [i64s]); simpa using this
  simp only [List.length_cons, List.length_nil, Nat.zero_add] at *
  obtain ⟨ea7, ec7, hev7, -, -⟩ := hb7.shape
  generalize cntD 2 (bs6 b f t).script = n7 at hev7
  subst hev7
  have HQ7 := Lib.hid hq7
  have z1 : IntKind.i64.wrap (t : Int) = (t : Int) := by rw [IntKind.wrap_i64]; omega
  have z2 : IntKind.i64.wrap (f : Int) = (f : Int) := by rw [IntKind.wrap_i64]; omega
  clear hc7 hb7 hf7 hr7 hcell hq7 HQ6
  go_wp2_with fail
  refine (dq_in HQ7.out 4).mono ?_
  rintro e v7' ⟨rfl, rfl⟩
  rw [show inS (bs7 b f t).s 4 = 0 by rw [bs7_eq hb8 hf5 ht5]; rfl]
  go_wp2_with fail
  refine (dq_in HQ7.out 6).mono ?_
  rintro e v7' ⟨rfl, rfl⟩
  rw [show inS (bs7 b f t).s 6 = 4 by rw [bs7_eq hb8 hf5 ht5]; rfl]
  clear hct
  go_wp2_with fail
  go_loopw [18, 19, 103, 104, 105, 106, 107, 108, 109, 110, 111, 112, 113, 114, 115, 116, 117, 118, 119, 120, 121, 122, 123, 124] (fun i18 _ _ _ _ _ _ _ _ _ _ _ _ _ _ _ _ _ _ _ _ _ _ _ wr =>  ∃ k : Nat, i18 = .int .i64 k ∧ k ≤ 5 ∧ Hid (DQ w wr d (bs7 b f t).s r fb g 5 (splice memL (64 * t) (frmF f)) (refR q b10) [q, b10])) (fun i18 _ _ _ _ _ _ _ _ _ _ _ _ _ _ _ _ _ _ _ _ _ _ _ _ =>  5 - (intOf i18).toNat)
  case atStart => exact ⟨0, rfl, by omega, HQ7⟩
  case round =>
    clear HQ7
    obtain ⟨k, rfl, hk, HQ⟩ := hrel
    have hcb : wr.cell? ⟨b10, 0, none⟩ = some (.slice (some ⟨q, 0, none⟩) 320 320) := cell_of HQ.out.other.2 0 rfl
    by_cases hlt : k < 5
    · have t1 : decide ((k : Int) < 5) = true := decide_eq_true (by omega)
      have F1 := ref5 HQ.out.other.1 k hlt
      have HF1 := Lib.hid F1
      clear F1
      by_cases hkt : k = t
      · have t2 : ((k : Int) == (t : Int)) = true := by simp; omega
        have HKT := Lib.hid hkt
        clear hkt
        go_wp2_with fail
        refine HF1.out.mono ?_
        rintro e x1 ⟨a1, c1, rfl, hr1, hk1⟩
        have HX1 := Lib.hid (HQ.out.keep0 HFR.out hk1)
        have hcb1 : x1.cell? ⟨b10, 0, none⟩ = some (.slice (some ⟨q, 0, none⟩) 320 320) := cell_of HX1.out.other.2 0 rfl
        clear hr1 hk1 hcb HQ
        have HF2 := Lib.hid (ref5 HX1.out.other.1 f hf5)
        go_wp2_with fail
        refine HF2.out.mono ?_
        rintro e x2 ⟨a2, c2, rfl, hr2, hk2⟩
        have HX2 := Lib.hid (HX1.out.keep0 HFR.out hk2)
        have HM := Lib.hid (show ((splice memL (64 * t) (frmF f)).drop (64 * k)).take 64 = (memL.drop (64 * f)).take 64 by rw [block_splice (frmF_length hf5) (by rw [memL_length]; omega), if_pos HKT.out]; rfl)
        generalize (memL.drop (64 * f)).take 64 = M at hr2 HM
        have HR2 := Lib.hid (And.intro hr2 (show 64 = M.length by rw [← HM.out, List.length_take, List.length_drop, length_splice _ _ _ (by rw [frmF_length hf5, memL_length]; omega), memL_length]; omega))
        clear hr2 hk2 HX1 HF1 HF2 hcb1
        go_wp2_with fail
        refine wp_region_held_drew (S := fun x => DQ w x d (bs7 b f t).s r fb g 5 (splice memL (64 * t) (frmF f)) (refR q b10) [q, b10] ∧ (convert 22 9 (.slice a2 64 c2)).run Try.prog x = .ok (.string (strOfNums M)) x) (by kernel_rfl) ⟨HX2.out.keep0 HFR.out (Keep.refl _ _).drew, str_of (HR2.out.1.keep0 (Keep.refl _ _).drew) HR2.out.2⟩ (fun hHeld => ?_)
        generalize hz0 : World.drew x2 = z0 at hHeld ⊢
        have HR0 := Lib.hid (show Row z0 a2 c2 M by rw [← hz0]; exact HR2.out.1.keep0 (Keep.refl _ _).drew)
        clear hz0
        skip
        refine wpAnyH_take (i := 0) (oi := { dst := some 118, op := Op.move (Operand.tmp 9), type := 53, pos := "outright.go:87", after := #[], guard := none }) (v := ?_) rfl (by kernel_rfl) (by kernel_rfl) (by kernel_rfl) (fun _ _ _ h => h) (Or.inl ⟨by rfl, ?_⟩) (by assumption) ?_
        rotate_left
        focus (intro w hSw; (try dsimp only at hSw); go_simp <;> with_reducible rfl)
        try simp only [Act.put, List.setIfInBounds_toArray, List.set_cons_zero, List.set_cons_succ]
        refine wpAnyH_take (i := 1) (oi := { dst := some 119, op := Op.move (Operand.tmp 18), type := 3, pos := "outright.go:87", after := #[], guard := none }) (v := ?_) rfl (by kernel_rfl) (by kernel_rfl) (by kernel_rfl) (fun _ _ _ h => h) (Or.inl ⟨by rfl, ?_⟩) (by assumption) ?_
        rotate_left
        focus (intro w hSw; (try dsimp only at hSw); go_simp <;> with_reducible rfl)
        try simp only [Act.put, List.setIfInBounds_toArray, List.set_cons_zero, List.set_cons_succ]
        refine wpAnyH_take (i := 4) (oi := { dst := some 122, op := Op.move (Operand.tmp 19), type := 22, pos := "outright.go:87", after := #[], guard := none }) (v := ?_) rfl (by kernel_rfl) (by kernel_rfl) (by kernel_rfl) (fun _ _ _ h => h) (Or.inl ⟨by rfl, ?_⟩) (by assumption) ?_
        rotate_left
        focus (intro w hSw; (try dsimp only at hSw); go_simp <;> with_reducible rfl)
        try simp only [Act.put, List.setIfInBounds_toArray, List.set_cons_zero, List.set_cons_succ]
        refine wpAnyH_take (i := 5) (oi := { dst := some 123, op := Op.convert 22 9 (Operand.tmp 122), type := 9, pos := "outright.go:87", after := #[{ on := 4, ground := Ground.data }], guard := none }) (v := ?_) rfl (by kernel_rfl) (by kernel_rfl) (by kernel_rfl) (fun _ _ _ h => h) (Or.inl ⟨by rfl, ?_⟩) (by assumption) ?_
        rotate_left
        focus (intro w hSw; (try dsimp only at hSw); go_simp <;> with_reducible rfl)
        try simp only [Act.put, List.setIfInBounds_toArray, List.set_cons_zero, List.set_cons_succ]
        refine wpAnyH_ready (rs := [2]) (by kernel_rfl) (by simp) ?_
        refine AllReadyH.cons (o := { dst := some 120, op := Op.call { callee := Callee.value (Operand.func 24), args := #[Operand.tmp 118, Operand.tmp 119], argTypes := #[53, 3] }, type := 22, pos := "outright.go:87", after := #[{ on := 0, ground := Ground.data }, { on := 1, ground := Ground.data }], guard := none }) rfl (fun K hK => ?_) AllReadyH.nil
        go_simp
        refine (dq_frame hHeld.1 k hlt).mono ?_
        rintro e z1 ⟨a3, c3, rfl, hr3, hkz⟩
        rw [HM.out] at hr3
        go_wp2_with fail
        have HZ := Lib.hid (hHeld.1.keep0 HFR.out hkz)
        refine shut_grow (fun x => x = z1 ∧ (convert 22 9 (.slice a2 64 c2)).run Try.prog x = .ok (.string (strOfNums M)) x ∧ (convert 22 9 (.slice a3 64 c3)).run Try.prog x = .ok (.string (strOfNums M)) x) hK (fun x h => ⟨by rw [h.1]; exact HZ.out, h.2.1⟩) ⟨rfl, str_of (HR0.out.keep0 hkz) HR2.out.2, str_of hr3 HR2.out.2⟩ (fun hHeld => ?_)
        clear hK K hkz
        refine wpAnyH_take (i := 3) (oi := { dst := some 121, op := Op.convert 22 9 (Operand.tmp 120), type := 9, pos := "outright.go:87", after := #[{ on := 2, ground := Ground.data }], guard := none }) (v := ?_) rfl (by kernel_rfl) (by kernel_rfl) (by kernel_rfl) (fun _ _ _ h => h) (Or.inl ⟨by rfl, ?_⟩) (by assumption) ?_
        rotate_left
        focus (intro w hSw; (try dsimp only at hSw); go_simp <;> with_reducible rfl)
        try simp only [Act.put, List.setIfInBounds_toArray, List.set_cons_zero, List.set_cons_succ]
        refine wpAnyH_take (i := 6) (oi := { dst := some 124, op := Op.binOp BinOp.neq 9 (Operand.tmp 121) (Operand.tmp 123) 9, type := 4, pos := "outright.go:87", after := #[{ on := 3, ground := Ground.data }, { on := 5, ground := Ground.data }], guard := none }) (v := ?_) rfl (by kernel_rfl) (by kernel_rfl) (by kernel_rfl) (fun _ _ _ h => h) (Or.inl ⟨by rfl, ?_⟩) (by assumption) ?_
        rotate_left
        focus (intro w hSw; (try dsimp only at hSw); go_simp <;> with_reducible rfl)
        try simp only [Act.put, List.setIfInBounds_toArray, List.set_cons_zero, List.set_cons_succ]
        refine wpAnyH_done (by kernel_rfl) ?_ _
        clear hHeld
        go_wp2_with fail
        go_roundw
        case rel => exact ⟨k + 1, by go_num, by omega, HZ⟩
        case measure => simp [intOf]; omega
      · have t2 : ((k : Int) == (t : Int)) = false := by simp; omega
        have HKT := Lib.hid hkt
        clear hkt
        go_wp2_with fail
        refine HF1.out.mono ?_
        rintro e x2 ⟨a2, c2, rfl, hr2, hk2⟩
        have HX2 := Lib.hid (HQ.out.keep0 HFR.out hk2)
        have HM := Lib.hid (show ((splice memL (64 * t) (frmF f)).drop (64 * k)).take 64 = (memL.drop (64 * k)).take 64 by rw [block_splice (frmF_length hf5) (by rw [memL_length]; omega), if_neg HKT.out])
        generalize (memL.drop (64 * k)).take 64 = M at hr2 HM
        have HR2 := Lib.hid (And.intro hr2 (show 64 = M.length by rw [← HM.out, List.length_take, List.length_drop, length_splice _ _ _ (by rw [frmF_length hf5, memL_length]; omega), memL_length]; omega))
        clear hr2 hk2 HQ HF1 hcb
        go_wp2_with fail
        refine wp_region_held_drew (S := fun x => DQ w x d (bs7 b f t).s r fb g 5 (splice memL (64 * t) (frmF f)) (refR q b10) [q, b10] ∧ (convert 22 9 (.slice a2 64 c2)).run Try.prog x = .ok (.string (strOfNums M)) x) (by kernel_rfl) ⟨HX2.out.keep0 HFR.out (Keep.refl _ _).drew, str_of (HR2.out.1.keep0 (Keep.refl _ _).drew) HR2.out.2⟩ (fun hHeld => ?_)
        generalize hz0 : World.drew x2 = z0 at hHeld ⊢
        have HR0 := Lib.hid (show Row z0 a2 c2 M by rw [← hz0]; exact HR2.out.1.keep0 (Keep.refl _ _).drew)
        clear hz0
        skip
        refine wpAnyH_take (i := 0) (oi := { dst := some 118, op := Op.move (Operand.tmp 9), type := 53, pos := "outright.go:87", after := #[], guard := none }) (v := ?_) rfl (by kernel_rfl) (by kernel_rfl) (by kernel_rfl) (fun _ _ _ h => h) (Or.inl ⟨by rfl, ?_⟩) (by assumption) ?_
        rotate_left
        focus (intro w hSw; (try dsimp only at hSw); go_simp <;> with_reducible rfl)
        try simp only [Act.put, List.setIfInBounds_toArray, List.set_cons_zero, List.set_cons_succ]
        refine wpAnyH_take (i := 1) (oi := { dst := some 119, op := Op.move (Operand.tmp 18), type := 3, pos := "outright.go:87", after := #[], guard := none }) (v := ?_) rfl (by kernel_rfl) (by kernel_rfl) (by kernel_rfl) (fun _ _ _ h => h) (Or.inl ⟨by rfl, ?_⟩) (by assumption) ?_
        rotate_left
        focus (intro w hSw; (try dsimp only at hSw); go_simp <;> with_reducible rfl)
        try simp only [Act.put, List.setIfInBounds_toArray, List.set_cons_zero, List.set_cons_succ]
        refine wpAnyH_take (i := 4) (oi := { dst := some 122, op := Op.move (Operand.tmp 19), type := 22, pos := "outright.go:87", after := #[], guard := none }) (v := ?_) rfl (by kernel_rfl) (by kernel_rfl) (by kernel_rfl) (fun _ _ _ h => h) (Or.inl ⟨by rfl, ?_⟩) (by assumption) ?_
        rotate_left
        focus (intro w hSw; (try dsimp only at hSw); go_simp <;> with_reducible rfl)
        try simp only [Act.put, List.setIfInBounds_toArray, List.set_cons_zero, List.set_cons_succ]
        refine wpAnyH_take (i := 5) (oi := { dst := some 123, op := Op.convert 22 9 (Operand.tmp 122), type := 9, pos := "outright.go:87", after := #[{ on := 4, ground := Ground.data }], guard := none }) (v := ?_) rfl (by kernel_rfl) (by kernel_rfl) (by kernel_rfl) (fun _ _ _ h => h) (Or.inl ⟨by rfl, ?_⟩) (by assumption) ?_
        rotate_left
        focus (intro w hSw; (try dsimp only at hSw); go_simp <;> with_reducible rfl)
        try simp only [Act.put, List.setIfInBounds_toArray, List.set_cons_zero, List.set_cons_succ]
        refine wpAnyH_ready (rs := [2]) (by kernel_rfl) (by simp) ?_
        refine AllReadyH.cons (o := { dst := some 120, op := Op.call { callee := Callee.value (Operand.func 24), args := #[Operand.tmp 118, Operand.tmp 119], argTypes := #[53, 3] }, type := 22, pos := "outright.go:87", after := #[{ on := 0, ground := Ground.data }, { on := 1, ground := Ground.data }], guard := none }) rfl (fun K hK => ?_) AllReadyH.nil
        go_simp
        refine (dq_frame hHeld.1 k hlt).mono ?_
        rintro e z1 ⟨a3, c3, rfl, hr3, hkz⟩
        rw [HM.out] at hr3
        go_wp2_with fail
        have HZ := Lib.hid (hHeld.1.keep0 HFR.out hkz)
        refine shut_grow (fun x => x = z1 ∧ (convert 22 9 (.slice a2 64 c2)).run Try.prog x = .ok (.string (strOfNums M)) x ∧ (convert 22 9 (.slice a3 64 c3)).run Try.prog x = .ok (.string (strOfNums M)) x) hK (fun x h => ⟨by rw [h.1]; exact HZ.out, h.2.1⟩) ⟨rfl, str_of (HR0.out.keep0 hkz) HR2.out.2, str_of hr3 HR2.out.2⟩ (fun hHeld => ?_)
        clear hK K hkz
        refine wpAnyH_take (i := 3) (oi := { dst := some 121, op := Op.convert 22 9 (Operand.tmp 120), type := 9, pos := "outright.go:87", after := #[{ on := 2, ground := Ground.data }], guard := none }) (v := ?_) rfl (by kernel_rfl) (by kernel_rfl) (by kernel_rfl) (fun _ _ _ h => h) (Or.inl ⟨by rfl, ?_⟩) (by assumption) ?_
        rotate_left
        focus (intro w hSw; (try dsimp only at hSw); go_simp <;> with_reducible rfl)
        try simp only [Act.put, List.setIfInBounds_toArray, List.set_cons_zero, List.set_cons_succ]
        refine wpAnyH_take (i := 6) (oi := { dst := some 124, op := Op.binOp BinOp.neq 9 (Operand.tmp 121) (Operand.tmp 123) 9, type := 4, pos := "outright.go:87", after := #[{ on := 3, ground := Ground.data }, { on := 5, ground := Ground.data }], guard := none }) (v := ?_) rfl (by kernel_rfl) (by kernel_rfl) (by kernel_rfl) (fun _ _ _ h => h) (Or.inl ⟨by rfl, ?_⟩) (by assumption) ?_
        rotate_left
        focus (intro w hSw; (try dsimp only at hSw); go_simp <;> with_reducible rfl)
        try simp only [Act.put, List.setIfInBounds_toArray, List.set_cons_zero, List.set_cons_succ]
        refine wpAnyH_done (by kernel_rfl) ?_ _
        clear hHeld
        go_wp2_with fail
        go_roundw
        case rel => exact ⟨k + 1, by go_num, by omega, HZ⟩
        case measure => simp [intOf]; omega
    · obtain rfl : k = 5 := by omega
      have t1 : decide (((5 : Nat) : Int) < 5) = false := rfl
      go_wp2_with fail
      refine wp_region_held_drew (S := fun x => DQ w x d (bs7 b f t).s r fb g 5 (splice memL (64 * t) (frmF f)) (refR q b10) [q, b10] ∧ x.cell? ⟨b10, 0, none⟩ = some (.slice (some ⟨q, 0, none⟩) 320 320)) (by kernel_rfl) ⟨HQ.out.keep0 HFR.out (Keep.refl _ _).drew, hcb⟩ (fun hHeld => ?_)
      generalize World.drew wr = z0 at hHeld ⊢
      have p0 : IntKind.u32.wrap (64 * (b : Int)) = ((64 * b : Nat) : Int) := by rw [IntKind.wrap_u32]; omega
      have p3 : IntKind.u32.wrap (((64 * b : Nat) : Int) + 64) = ((64 * b + 64 : Nat) : Int) := by rw [IntKind.wrap_u32]; omega
      clear hcb HQ
      skip
      refine wpAnyH_take (i := 0) (oi := { dst := some 125, op := Op.move (Operand.tmp 7), type := 26, pos := "outright.go:91", after := #[], guard := none }) (v := ?_) rfl (by kernel_rfl) (by kernel_rfl) (by kernel_rfl) (fun _ _ _ h => h) (Or.inl ⟨by rfl, ?_⟩) (by assumption) ?_
      rotate_left
      focus (intro w hSw; (try dsimp only at hSw); go_simp <;> with_reducible rfl)
      try simp only [Act.put, List.setIfInBounds_toArray, List.set_cons_zero, List.set_cons_succ]
      refine wpAnyH_take (i := 2) (oi := { dst := some 127, op := Op.move (Operand.tmp 11), type := 33, pos := "outright.go:91", after := #[], guard := none }) (v := ?_) rfl (by kernel_rfl) (by kernel_rfl) (by kernel_rfl) (fun _ _ _ h => h) (Or.inl ⟨by rfl, ?_⟩) (by assumption) ?_
      rotate_left
      focus (intro w hSw; (try dsimp only at hSw); go_simp <;> with_reducible rfl)
      try simp only [Act.put, List.setIfInBounds_toArray, List.set_cons_zero, List.set_cons_succ]
      refine wpAnyH_take (i := 3) (oi := { dst := some 128, op := Op.binOp BinOp.mul 33 (Operand.const (Value.int IntKind.u32 64)) (Operand.tmp 127) 33, type := 33, pos := "outright.go:91", after := #[{ on := 2, ground := Ground.data }], guard := none }) (v := ?_) rfl (by kernel_rfl) (by kernel_rfl) (by kernel_rfl) (fun _ _ _ h => h) (Or.inl ⟨by rfl, ?_⟩) (by assumption) ?_
      rotate_left
      focus (intro w hSw; (try dsimp only at hSw); go_simp <;> with_reducible rfl)
      try simp only [Act.put, List.setIfInBounds_toArray, List.set_cons_zero, List.set_cons_succ]
      refine wpAnyH_take (i := 4) (oi := { dst := some 129, op := Op.move (Operand.tmp 11), type := 33, pos := "outright.go:91", after := #[], guard := none }) (v := ?_) rfl (by kernel_rfl) (by kernel_rfl) (by kernel_rfl) (fun _ _ _ h => h) (Or.inl ⟨by rfl, ?_⟩) (by assumption) ?_
      rotate_left
      focus (intro w hSw; (try dsimp only at hSw); go_simp <;> with_reducible rfl)
      try simp only [Act.put, List.setIfInBounds_toArray, List.set_cons_zero, List.set_cons_succ]
      refine wpAnyH_take (i := 5) (oi := { dst := some 130, op := Op.binOp BinOp.mul 33 (Operand.const (Value.int IntKind.u32 64)) (Operand.tmp 129) 33, type := 33, pos := "outright.go:91", after := #[{ on := 4, ground := Ground.data }], guard := none }) (v := ?_) rfl (by kernel_rfl) (by kernel_rfl) (by kernel_rfl) (fun _ _ _ h => h) (Or.inl ⟨by rfl, ?_⟩) (by assumption) ?_
      rotate_left
      focus (intro w hSw; (try dsimp only at hSw); go_simp <;> with_reducible rfl)
      try simp only [Act.put, List.setIfInBounds_toArray, List.set_cons_zero, List.set_cons_succ]
      refine wpAnyH_take (i := 6) (oi := { dst := some 131, op := Op.binOp BinOp.add 33 (Operand.tmp 130) (Operand.const (Value.int IntKind.u32 64)) 33, type := 33, pos := "outright.go:91", after := #[{ on := 5, ground := Ground.data }], guard := none }) (v := ?_) rfl (by kernel_rfl) (by kernel_rfl) (by kernel_rfl) (fun _ _ _ h => h) (Or.inl ⟨by rfl, ?_⟩) (by assumption) ?_
      rotate_left
      focus (intro w hSw; (try dsimp only at hSw); go_simp <;> with_reducible rfl)
      try simp only [Act.put, List.setIfInBounds_toArray, List.set_cons_zero, List.set_cons_succ]
      refine wpAnyH_take (i := 9) (oi := { dst := some 134, op := Op.load 55 (Operand.tmp 10), type := 55, pos := "outright.go:91", after := #[], guard := none }) (v := ?_) rfl (by kernel_rfl) (by kernel_rfl) (by kernel_rfl) (fun _ _ _ h => h) (Or.inl ⟨by rfl, ?_⟩) (by assumption) ?_
      rotate_left
      focus (intro w hSw; (try dsimp only at hSw); go_simp <;> with_reducible rfl)
      try simp only [Act.put, List.setIfInBounds_toArray, List.set_cons_zero, List.set_cons_succ]
      refine wpAnyH_take (i := 10) (oi := { dst := some 135, op := Op.move (Operand.tmp 12), type := 33, pos := "outright.go:91", after := #[], guard := none }) (v := ?_) rfl (by kernel_rfl) (by kernel_rfl) (by kernel_rfl) (fun _ _ _ h => h) (Or.inl ⟨by rfl, ?_⟩) (by assumption) ?_
      rotate_left
      focus (intro w hSw; (try dsimp only at hSw); go_simp <;> with_reducible rfl)
      try simp only [Act.put, List.setIfInBounds_toArray, List.set_cons_zero, List.set_cons_succ]
      refine wpAnyH_take (i := 11) (oi := { dst := some 136, op := Op.convert 33 3 (Operand.tmp 135), type := 3, pos := "outright.go:91", after := #[{ on := 10, ground := Ground.data }], guard := none }) (v := ?_) rfl (by kernel_rfl) (by kernel_rfl) (by kernel_rfl) (fun _ _ _ h => h) (Or.inl ⟨by rfl, ?_⟩) (by assumption) ?_
      rotate_left
      focus (intro w hSw; (try dsimp only at hSw); go_simp <;> with_reducible rfl)
      try simp only [Act.put, List.setIfInBounds_toArray, List.set_cons_zero, List.set_cons_succ]
      refine wpAnyH_ready (rs := [1]) (by kernel_rfl) (by simp) ?_
      refine AllReadyH.cons (o := { dst := some 126, op := Op.call { callee := Callee.value (Operand.func 25), args := #[Operand.tmp 125], argTypes := #[26] }, type := 22, pos := "outright.go:91", after := #[{ on := 0, ground := Ground.data }], guard := none }) rfl (fun K hK => ?_) AllReadyH.nil
      go_simp
      refine (dq_disk hHeld.1).mono ?_
      rintro e z1 ⟨v, rfl, hb1, hkz⟩
      rw [show (bs7 b f t).s.disk = splice D0 (64 * b) (frmF f) by rw [bs7_eq hb8 hf5 ht5]] at hb1
      have hD0 : IsBytes D0 := fun x hx => by rw [D0, List.mem_replicate] at hx; omega
      have hD0l : D0.length = 512 := List.length_replicate ..
      have hfb : IsBytes (frmF f) := fun x hx => memL_bytes x (List.mem_of_mem_drop (List.mem_of_mem_take hx))
      have hdl : (splice D0 (64 * b) (frmF f)).length = 512 := by rw [length_splice _ _ _ (by rw [frmF_length hf5, hD0l]; omega)]; exact hD0l
      have HM := block_splice (p := b) (k := b) (L := D0) (frmF_length hf5) (by rw [hD0l]; omega)
      rw [if_pos rfl] at HM
      obtain ⟨va, vc, hv, hvc, -⟩ := hb1.shape
      subst hv
      obtain ⟨-, hrow⟩ := hb1.row (splice_bytes hD0 hfb)
      obtain ⟨vg, voff, hva⟩ := hrow.some_of (by rw [hdl]; omega)
      subst hva
      have hrow2 := (hrow.drop (64 * b) (by rw [hdl]; omega)).take 64
      rw [HM] at hrow2
      rw [hdl] at hvc ⊢
      have hfl := frmF_length hf5
      have HZ1 := Lib.hid (And.intro (hHeld.1.keep0 HFR.out hkz) (And.intro hrow2 hfl.symm))
      have e0 : IntKind.u32.wrap (64 * (b : Int) + 64) = 64 * (b : Int) + 64 := by rw [IntKind.wrap_u32]; omega
      have e1 : 64 * (b : Int) + 64 ≤ (vc : Int) := by omega
      have e2 : 0 ≤ 64 * (b : Int) := by omega
      have e2b : 64 * (b : Int) ≤ max (64 * (b : Int) + 64) 0 := by omega
      have e3 : (64 * (b : Int)).toNat = 64 * b := by omega
      have e3b : (64 * (b : Int) + 64).toNat = 64 * b + 64 := by omega
      have e4 : ¬ vc = 64 * b := by omega
      have e5 : 0 ≤ 64 * (b : Int) + 64 := by omega
      have e6 : 64 * (b : Int) ≤ 64 * (b : Int) + 64 := by omega
      go_wp2_with fail
      clear hrow hrow2 hb1 hdl HM hfb hD0 hD0l
      refine shut_grow (fun x => (DQ w x d (bs7 b f t).s r fb g 5 (splice memL (64 * t) (frmF f)) (refR q b10) [q, b10] ∧ x.cell? ⟨b10, 0, none⟩ = some (.slice (some ⟨q, 0, none⟩) 320 320)) ∧ Keep [] z1 x ∧ (convert 22 9 (.slice (some ⟨vg, voff + 64 * b, none⟩) 64 (vc - 64 * b))).run Try.prog x = .ok (.string (strOfNums (frmF f))) x) hK (fun _ h => h.1) ⟨⟨HZ1.out.1, cell_of HZ1.out.1.other.2 0 rfl⟩, Keep.refl _ _, str_of HZ1.out.2.1 HZ1.out.2.2⟩ (fun hHeld => ?_)
      clear hK K hkz
      refine wpAnyH_take (i := 7) (oi := { dst := some 132, op := Op.slice 22 (Operand.tmp 126) (some (Operand.tmp 128)) (some (Operand.tmp 131)) none, type := 22, pos := "outright.go:91", after := #[{ on := 1, ground := Ground.data }, { on := 3, ground := Ground.data }, { on := 6, ground := Ground.data }], guard := none }) (v := ?_) rfl (by kernel_rfl) (by kernel_rfl) (by kernel_rfl) (fun _ _ _ h => h) (Or.inl ⟨by rfl, ?_⟩) (by assumption) ?_
      rotate_left
      focus (intro w hSw; (try dsimp only at hSw); go_simp <;> with_reducible rfl)
      try simp only [Act.put, List.setIfInBounds_toArray, List.set_cons_zero, List.set_cons_succ]
      refine wpAnyH_take (i := 8) (oi := { dst := some 133, op := Op.convert 22 9 (Operand.tmp 132), type := 9, pos := "outright.go:91", after := #[{ on := 7, ground := Ground.data }], guard := none }) (v := ?_) rfl (by kernel_rfl) (by kernel_rfl) (by kernel_rfl) (fun _ _ _ h => h) (Or.inl ⟨by rfl, ?_⟩) (by assumption) ?_
      rotate_left
      focus (intro w hSw; (try dsimp only at hSw); go_simp <;> with_reducible rfl)
      try simp only [Act.put, List.setIfInBounds_toArray, List.set_cons_zero, List.set_cons_succ]
      refine wpAnyH_ready (rs := [12]) (by kernel_rfl) (by simp) ?_
      refine AllReadyH.cons (o := { dst := some 137, op := Op.call { callee := Callee.value (Operand.func 23), args := #[Operand.tmp 134, Operand.tmp 136], argTypes := #[55, 3] }, type := 22, pos := "outright.go:91", after := #[{ on := 9, ground := Ground.data }, { on := 11, ground := Ground.data }, { on := 1, ground := Ground.chain }], guard := none }) rfl (fun K hK => ?_) AllReadyH.nil
      go_simp
      refine (ref5 hHeld.1.1.other.1 f hf5).mono ?_
      rintro e z2 ⟨a3, c3, rfl, hr3, hkz⟩
      go_wp2_with fail
      have hr3' : Row z2 a3 c3 (frmF f) := hr3
      have HZ2 := Lib.hid (And.intro (hHeld.1.1.keep0 HFR.out hkz) (And.intro (HZ1.out.2.1.keep0 (hHeld.2.1.trans hkz)) hr3'))
      refine shut_grow (fun x => (DQ w x d (bs7 b f t).s r fb g 5 (splice memL (64 * t) (frmF f)) (refR q b10) [q, b10] ∧ x.cell? ⟨b10, 0, none⟩ = some (.slice (some ⟨q, 0, none⟩) 320 320)) ∧ (Keep [] z1 x ∧ Keep [] z2 x) ∧ (convert 22 9 (.slice (some ⟨vg, voff + 64 * b, none⟩) 64 (vc - 64 * b))).run Try.prog x = .ok (.string (strOfNums (frmF f))) x ∧ (convert 22 9 (.slice a3 64 c3)).run Try.prog x = .ok (.string (strOfNums (frmF f))) x) hK (fun x h => ⟨h.1, h.2.1.1, h.2.2.1⟩) ⟨⟨HZ2.out.1, cell_of HZ2.out.1.other.2 0 rfl⟩, ⟨hHeld.2.1.trans hkz, Keep.refl _ _⟩, str_of HZ2.out.2.1 hfl.symm, str_of HZ2.out.2.2 hfl.symm⟩ (fun hHeld => ?_)
      clear hK K hkz hr3 hr3'
      refine wpAnyH_take (i := 13) (oi := { dst := some 138, op := Op.convert 22 9 (Operand.tmp 137), type := 9, pos := "outright.go:91", after := #[{ on := 12, ground := Ground.data }], guard := none }) (v := ?_) rfl (by kernel_rfl) (by kernel_rfl) (by kernel_rfl) (fun _ _ _ h => h) (Or.inl ⟨by rfl, ?_⟩) (by assumption) ?_
      rotate_left
      focus (intro w hSw; (try dsimp only at hSw); go_simp <;> with_reducible rfl)
      try simp only [Act.put, List.setIfInBounds_toArray, List.set_cons_zero, List.set_cons_succ]
      refine wpAnyH_take (i := 14) (oi := { dst := some 139, op := Op.binOp BinOp.eql 9 (Operand.tmp 133) (Operand.tmp 138) 9, type := 4, pos := "outright.go:91", after := #[{ on := 8, ground := Ground.data }, { on := 13, ground := Ground.data }], guard := none }) (v := ?_) rfl (by kernel_rfl) (by kernel_rfl) (by kernel_rfl) (fun _ _ _ h => h) (Or.inl ⟨by rfl, ?_⟩) (by assumption) ?_
      rotate_left
      focus (intro w hSw; (try dsimp only at hSw); go_simp <;> with_reducible rfl)
      try simp only [Act.put, List.setIfInBounds_toArray, List.set_cons_zero, List.set_cons_succ]
      refine wpAnyH_take (i := 15) (oi := { dst := some 140, op := Op.move (Operand.tmp 139), type := 4, pos := "outright.go:91", after := #[{ on := 14, ground := Ground.data }, { on := 12, ground := Ground.chain }], guard := none }) (v := ?_) rfl (by kernel_rfl) (by kernel_rfl) (by kernel_rfl) (fun _ _ _ h => h) (Or.inl ⟨by rfl, ?_⟩) (by assumption) ?_
      rotate_left
      focus (intro w hSw; (try dsimp only at hSw); go_simp <;> with_reducible rfl)
      try simp only [Act.put, List.setIfInBounds_toArray, List.set_cons_zero, List.set_cons_succ]
      refine wpAnyH_ready (rs := [16]) (by kernel_rfl) (by simp) ?_
      refine AllReadyH.cons (o := { dst := some 141, op := Op.call { callee := Callee.value (Operand.func 15), args := #[], argTypes := #[] }, type := 4, pos := "outright.go:91", after := #[{ on := 15, ground := Ground.chain }, { on := 15, ground := Ground.guard }], guard := some (15, true) }) rfl (fun K hK => ?_) AllReadyH.nil
      go_simp
      refine (works_at _).mono ?_
      rintro e z3 ⟨rfl, hkz⟩
      have HZ3 := Lib.hid (And.intro (hHeld.1.1.keep0 HFR.out hkz) (And.intro (hHeld.2.1.1.trans hkz) (And.intro (hHeld.2.1.2.trans hkz) (HZ2.out.2.1.keep0 (hHeld.2.1.2.trans hkz)))))
      go_wp2_with fail
      refine shut_grow (fun x => x = z3) hK (fun x h => by subst h; exact ⟨⟨HZ3.out.1, cell_of HZ3.out.1.other.2 0 rfl⟩, ⟨HZ3.out.2.1, HZ3.out.2.2.1⟩, str_of HZ3.out.2.2.2 hfl.symm, str_of (HZ2.out.2.2.keep0 HZ3.out.2.2.1) hfl.symm⟩) rfl (fun hHeld => ?_)
      refine wpAnyH_take (i := 17) (oi := { dst := some 142, op := Op.pick (Operand.tmp 140) (Operand.tmp 141) (Operand.const (Value.bool false)), type := 4, pos := "outright.go:91", after := #[{ on := 15, ground := Ground.data }, { on := 16, ground := Ground.data }], guard := none }) (v := ?_) rfl (by kernel_rfl) (by kernel_rfl) (by kernel_rfl) (fun _ _ _ h => h) (Or.inl ⟨by rfl, ?_⟩) (by assumption) ?_
      rotate_left
      focus (intro w hSw; (try dsimp only at hSw); go_simp <;> with_reducible rfl)
      try simp only [Act.put, List.setIfInBounds_toArray, List.set_cons_zero, List.set_cons_succ]
      refine wpAnyH_take (i := 18) (oi := { dst := some 6, op := Op.assign (Operand.tmp 142), type := 4, pos := "outright.go:91", after := #[{ on := 17, ground := Ground.data }, { on := 16, ground := Ground.chain }, { on := 0, ground := Ground.phase }, { on := 1, ground := Ground.phase }, { on := 2, ground := Ground.phase }, { on := 3, ground := Ground.phase }, { on := 4, ground := Ground.phase }, { on := 5, ground := Ground.phase }, { on := 6, ground := Ground.phase }, { on := 7, ground := Ground.phase }, { on := 8, ground := Ground.phase }, { on := 9, ground := Ground.phase }, { on := 10, ground := Ground.phase }, { on := 11, ground := Ground.phase }, { on := 12, ground := Ground.phase }, { on := 13, ground := Ground.phase }, { on := 14, ground := Ground.phase }, { on := 15, ground := Ground.phase }, { on := 16, ground := Ground.phase }, { on := 17, ground := Ground.phase }], guard := none }) (v := ?_) rfl (by kernel_rfl) (by kernel_rfl) (by kernel_rfl) (fun _ _ _ h => h) (Or.inl ⟨by rfl, ?_⟩) (by assumption) ?_
      rotate_left
      focus (intro w hSw; (try dsimp only at hSw); go_simp <;> with_reducible rfl)
      try simp only [Act.put, List.setIfInBounds_toArray, List.set_cons_zero, List.set_cons_succ]
      refine wpAnyH_done (by kernel_rfl) ?_ _
      clear hHeld
      go_wp2_with fail
      go_ret
      exact ⟨rfl, HZ3.out.1.kp.below (Nat.le_refl _) (by simp)⟩

end Go.Proofs.Ytgeakpeaohggoaa
