/- Contracts of the functions that the law reaches, walked, and the plain laws on them (several texts in one). -/
import Derived.Outline
import Derived.Test.YtnpnedimgfbnhaaM19
import Derived.Test.YtnpnedimgfbnhaaM17
import Derived.Test.YtnpnedimgfbnhaaM18

/- A guest that came in. -/
namespace Go.Proofs.Ytnpnedimgfbnhaa
open Go.RowKit Go.Mum
set_option linter.unusedVariables false
set_option linter.unusedSimpArgs false
set_option maxRecDepth 100000

theorem wf_u16 {z : Int} (h : (Lit.int .u16 z).wf = true) : 0 ≤ z ∧ z ≤ 65535 := by simp only [Lit.wf, IntKind.min, IntKind.max, IntKind.signed, IntKind.bits, Bool.and_eq_true] at h; simp at h; exact h

theorem slice_of_fits {w : World} {B n : Nat} {t e : TypeId} {d : Value} (ht : Try.prog.underlying t = some (.slice e)) (h : Fits Try.prog w B n t [d]) : ∃ a l c, d = .slice a l c := by
  cases n with
  | zero => exact h.elim
  | succ k =>
    unfold Fits at h
    rw [ht] at h
    rcases h with h | ⟨a, l, c, h, _⟩
    · simp at h; exact ⟨_, _, _, h⟩
    · simp at h; exact ⟨_, _, _, h⟩

theorem state_of_fits {w : World} {B n : Nat} {d4 d5 d6 d7 d8 d9 d10 d11 d12 d13 d14 d15 d16 d17 d18 d19 d20 d21 d22 : Value} (h : Fits Try.prog w B n 43 [d4, d5, d6, d7, d8, d9, d10, d11, d12, d13, d14, d15, d16, d17, d18, d19, d20, d21, d22]) :
    ∃ (f : Nat → Value) (ps cr : Nat), [d4, d5, d6, d7, d8, d9, d10, d11, d12, d13, d14, d15, d16, d17, d18, d19, d20, d21, d22] = [f 0, f 1, f 2, f 3, f 4, f 5, f 6, f 7, f 8, .int .u32 ps, .int .u32 cr, f 11, f 12, f 13, f 14, f 15, f 16, f 17, f 18] ∧ ps < 4294967296 ∧ cr < 4294967296 ∧ ∀ i, (f i).oneCell' = true := by
  obtain ⟨m2, hl, hfs⟩ := h.struct Try.underlying43
  have q8 : Try.prog.cellsOf 41 = 8 := by kernel_rfl
  have q1 : Try.prog.cellsOf 22 = 1 := by kernel_rfl
  have qb : Try.prog.cellsOf 4 = 1 := by kernel_rfl
  have fR := hfs _ (.head _)
  have fC := hfs _ (.tail _ (.head _))
  have fS := hfs _ (.tail _ (.tail _ (.head _)))
  have fK := hfs _ (.tail _ (.tail _ (.tail _ (.head _))))
  have fH := hfs _ (.tail _ (.tail _ (.tail _ (.tail _ (.head _)))))
  simp only [q8, q1, qb, List.take, List.drop] at fR fC fS fK fH
  obtain ⟨m3, hl3, hR⟩ := fR.array Try.underlying41
  obtain ⟨m4, hl4, hK⟩ := fK.array Try.underlying41
  simp only [q1] at hR hK
  obtain ⟨z0, e0, g0⟩ := (hR 0 (by omega)).int Try.underlying22
  obtain ⟨z1, e1, g1⟩ := (hR 1 (by omega)).int Try.underlying22
  obtain ⟨z2, e2, g2⟩ := (hR 2 (by omega)).int Try.underlying22
  obtain ⟨z3, e3, g3⟩ := (hR 3 (by omega)).int Try.underlying22
  obtain ⟨z4, e4, g4⟩ := (hR 4 (by omega)).int Try.underlying22
  obtain ⟨z5, e5, g5⟩ := (hR 5 (by omega)).int Try.underlying22
  obtain ⟨z6, e6, g6⟩ := (hR 6 (by omega)).int Try.underlying22
  obtain ⟨z7, e7, g7⟩ := (hR 7 (by omega)).int Try.underlying22
  obtain ⟨z8, e8, g8⟩ := fC.int Try.underlying22
  obtain ⟨z9, e9, g9⟩ := fS.int Try.underlying22
  obtain ⟨z10, e10, g10⟩ := (hK 0 (by omega)).int Try.underlying22
  obtain ⟨z11, e11, g11⟩ := (hK 1 (by omega)).int Try.underlying22
  obtain ⟨z12, e12, g12⟩ := (hK 2 (by omega)).int Try.underlying22
  obtain ⟨z13, e13, g13⟩ := (hK 3 (by omega)).int Try.underlying22
  obtain ⟨z14, e14, g14⟩ := (hK 4 (by omega)).int Try.underlying22
  obtain ⟨z15, e15, g15⟩ := (hK 5 (by omega)).int Try.underlying22
  obtain ⟨z16, e16, g16⟩ := (hK 6 (by omega)).int Try.underlying22
  obtain ⟨z17, e17, g17⟩ := (hK 7 (by omega)).int Try.underlying22
  obtain ⟨z18, e18⟩ := fH.bool Try.underlying4
  simp at e0 e1 e2 e3 e4 e5 e6 e7 e8 e9 e10 e11 e12 e13 e14 e15 e16 e17 e18
  subst e0 e1 e2 e3 e4 e5 e6 e7 e8 e9 e10 e11 e12 e13 e14 e15 e16 e17 e18
  have h9 := wf_u32 g9
  have h10 := wf_u32 g10
  refine ⟨fun i => ([.int .u32 z0, .int .u32 z1, .int .u32 z2, .int .u32 z3, .int .u32 z4, .int .u32 z5, .int .u32 z6, .int .u32 z7, .int .u32 z8, .int .u32 z9, .int .u32 z10, .int .u32 z11, .int .u32 z12, .int .u32 z13, .int .u32 z14, .int .u32 z15, .int .u32 z16, .int .u32 z17, .bool z18] : List Value).getD i (.bool false), z9.toNat, z10.toNat, ?_, by omega, by omega, ?_⟩
  · rw [Int.toNat_of_nonneg h9.1, Int.toNat_of_nonneg h10.1]; rfl
  · intro i
    match i with
    | 0 => rfl
    | 1 => rfl
    | 2 => rfl
    | 3 => rfl
    | 4 => rfl
    | 5 => rfl
    | 6 => rfl
    | 7 => rfl
    | 8 => rfl
    | 9 => rfl
    | 10 => rfl
    | 11 => rfl
    | 12 => rfl
    | 13 => rfl
    | 14 => rfl
    | 15 => rfl
    | 16 => rfl
    | 17 => rfl
    | 18 => rfl
    | n + 19 => rfl

/-- The guest. -/
theorem guest_of_fits {w : World} {n : Nat} {c : Array Value} (h : Fits Try.prog w maxLen n 46 c.toList) :
    ∃ (fr en : Int) (is cs ss ds : Option Addr) (ic cl cc sl sc dl dc : Nat) (IL : List Int) (f : Nat → Value) (ps cr : Nat), c = #[.int .i64 fr, .slice is IL.length ic, .slice cs cl cc, .int .u16 en, f 0, f 1, f 2, f 3, f 4, f 5, f 6, f 7, f 8, .int .u32 ps, .int .u32 cr, f 11, f 12, f 13, f 14, f 15, f 16, f 17, f 18, .slice ss sl sc, .slice ds dl dc] ∧ Row w is ic IL ∧ InsIn w cs cl ∧ IL.length ≤ 9223372036854775807 ∧ 0 ≤ en ∧ en ≤ 65535 ∧ ps < 4294967296 ∧ cr < 4294967296 ∧ ∀ i, (f i).oneCell' = true := by
  obtain ⟨m2, hl, hfs⟩ := h.struct Try.underlying46
  have cs : Try.prog.cellsOf 46 = 25 := by kernel_rfl
  rw [cs] at hl
  obtain ⟨l⟩ := c
  match l, hl with
  | [d0, d1, d2, d3, d4, d5, d6, d7, d8, d9, d10, d11, d12, d13, d14, d15, d16, d17, d18, d19, d20, d21, d22, d23, d24], _ =>
    have q1 : Try.prog.cellsOf 3 = 1 := by kernel_rfl
    have q2 : Try.prog.cellsOf 38 = 1 := by kernel_rfl
    have q3 : Try.prog.cellsOf 39 = 1 := by kernel_rfl
    have q4 : Try.prog.cellsOf 40 = 1 := by kernel_rfl
    have q5 : Try.prog.cellsOf 43 = 19 := by kernel_rfl
    have q6 : Try.prog.cellsOf 44 = 1 := by kernel_rfl
    have k0 := hfs _ (.head _)
    have k1 := hfs _ (.tail _ (.head _))
    have k2 := hfs _ (.tail _ (.tail _ (.head _)))
    have k3 := hfs _ (.tail _ (.tail _ (.tail _ (.head _))))
    have k4 := hfs _ (.tail _ (.tail _ (.tail _ (.tail _ (.head _)))))
    have k5 := hfs _ (.tail _ (.tail _ (.tail _ (.tail _ (.tail _ (.head _))))))
    have k6 := hfs _ (.tail _ (.tail _ (.tail _ (.tail _ (.tail _ (.tail _ (.head _)))))))
    simp only [q1, q2, q3, q4, q5, q6, List.take, List.drop] at k0 k1 k2 k3 k4 k5 k6
    obtain ⟨fr, e0, g0⟩ := k0.int Try.underlying3
    obtain ⟨is, il, ic, rfl⟩ := slice_of_fits Try.underlying38 k1
    obtain ⟨cs, cl, cc, rfl⟩ := slice_of_fits Try.underlying39 k2
    obtain ⟨en, e3, g3⟩ := k3.int Try.underlying40
    obtain ⟨ss, sl, sc, rfl⟩ := slice_of_fits Try.underlying44 k5
    obtain ⟨ds, dl, dc, rfl⟩ := slice_of_fits Try.underlying38 k6
    obtain ⟨f, ps, cr, hst, hps, hcr, hf⟩ := state_of_fits k4
    simp at e0 e3
    obtain ⟨L, rfl, hrow, hlen⟩ := row_of_fits k1
    have h3 := wf_u16 g3
    simp only [List.cons.injEq, and_true] at hst
    obtain ⟨rfl, rfl, rfl, rfl, rfl, rfl, rfl, rfl, rfl, rfl, rfl, rfl, rfl, rfl, rfl, rfl, rfl, rfl, rfl⟩ := hst
    subst e0 e3
    refine ⟨fr, en, is, cs, ss, ds, ic, cl, cc, sl, sc, dl, dc, L, f, ps, cr, rfl, hrow, ins_of_fits k2, ?_, h3.1, h3.2, hps, hcr, hf⟩
    unfold maxLen at hlen; omega
theorem keepRange {w x : World} {b o : Nat} {l : List Value} (h : Go.Mum.Keep [] w x) (hr : w.rangeAt b o l) : x.rangeAt b o l := fun j v hj => h.cell (hr j v hj) (by simp)

/-- The state within the guest. -/
theorem rangeState {x : World} {b : Nat} {v0 v1 v2 v3 v23 v24 : Value} {f : Nat → Value} {ps cr : Nat} (h : x.rangeAt b 0 [v0, v1, v2, v3, f 0, f 1, f 2, f 3, f 4, f 5, f 6, f 7, f 8, .int .u32 ps, .int .u32 cr, f 11, f 12, f 13, f 14, f 15, f 16, f 17, f 18, v23, v24]) : x.rangeAt b 4 [f 0, f 1, f 2, f 3, f 4, f 5, f 6, f 7, f 8, .int .u32 ps, .int .u32 cr, f 11, f 12, f 13, f 14, f 15, f 16, f 17, f 18] := by
  intro j v hj
  have := h (4 + j) v (by
    rw [List.getElem?_eq_some_iff] at hj ⊢
    obtain ⟨hlt, he⟩ := hj
    refine ⟨by simp at hlt ⊢; omega, ?_⟩
    rw [← he]
    match j, hlt with
    | 0, _ => rfl
    | 1, _ => rfl
    | 2, _ => rfl
    | 3, _ => rfl
    | 4, _ => rfl
    | 5, _ => rfl
    | 6, _ => rfl
    | 7, _ => rfl
    | 8, _ => rfl
    | 9, _ => rfl
    | 10, _ => rfl
    | 11, _ => rfl
    | 12, _ => rfl
    | 13, _ => rfl
    | 14, _ => rfl
    | 15, _ => rfl
    | 16, _ => rfl
    | 17, _ => rfl
    | 18, _ => rfl
    | n + 19, h => simp at h; omega)
  rw [Nat.zero_add] at this
  exact this

end Go.Proofs.Ytnpnedimgfbnhaa

/- The document's verdict, walked. -/
namespace Go.Proofs.Ytnpnedimgfbnhaa
open Go.RowKit Go.Mum
set_option linter.unusedVariables false
set_option maxRecDepth 100000

set_option maxHeartbeats 8000000 in
theorem rdecide_no {w : World} {s : Value} {n : Nat} {rd : Nat → Option Nat} {W : Int → Bool} {m1 m2 : Value} (h : DMem w s n rd) (f : Nat → Value) (ps cr va : Nat) (kind : Int) (hp : ps < 4294967296) (hc : cr < 4294967296) (hv : va < 4294967296) (hk1 : -9223372036854775808 ≤ kind) (hk2 : kind ≤ 9223372036854775807)
    (hno : (toF rd n cr 16 ps va kind).2 = false) :
    Calls Try.prog 15 #[.agg #[s], .agg #[f 0, f 1, f 2, f 3, f 4, f 5, f 6, f 7, f 8, .int .u32 ps, .int .u32 cr, f 11, f 12, f 13, f 14, f 15, f 16, f 17, f 18], .agg #[m1, m2], .int .u32 va, .int .i64 kind] w (VerPost (decF rd n W cr ps va kind) w) := by
  obtain ⟨sa, sm, sc, rfl⟩ := h.isS
  have HM := Lib.hid h
  clear h
  by_cases h1 : kind < 1
  · rw [dec_kind (.inl h1)]
    go_enter Try.func15, Try.ntmps15
    go_wp2_with fail
    exact bodyPost_ret (v := verV ⟨3, 0, 0, [], 0, false, 0, 0⟩ (.slice none 0 0)) (by simp [results, Try.results15, go_sem, verV]) rfl (verPost_of ⟨rfl, rfl⟩ (reads_nil _) ((((Keep.refl _ _).alloc _).alloc _).alloc _ |>.alloc _) (.inl rfl))
  · by_cases h3 : 3 < kind
    · rw [dec_kind (.inr h3)]
      go_enter Try.func15, Try.ntmps15
      go_wp2_with fail
      exact bodyPost_ret (v := verV ⟨3, 0, 0, [], 0, false, 0, 0⟩ (.slice none 0 0)) (by simp [results, Try.results15, go_sem, verV]) rfl (verPost_of ⟨rfl, rfl⟩ (reads_nil _) ((((Keep.refl _ _).alloc _).alloc _).alloc _ |>.alloc _) (.inl rfl))
    · rw [dec_none ⟨by omega, by omega⟩ hno]
      obtain ⟨qa, hq⟩ : ∃ qa, toF rd n cr 16 ps va kind = (qa, false) := ⟨(toF rd n cr 16 ps va kind).1, Prod.ext rfl hno⟩
      have HQ := Lib.hid hq
      clear hq hno
      obtain ⟨sz, hsz⟩ : ∃ sz, sz = w.heap.size := ⟨_, rfl⟩
      go_enter Try.func15, Try.ntmps15
      go_wp2_with fail
      rw [← hsz]
      generalize hy : World.alloc (World.alloc (World.alloc (World.alloc w _) _) _) _ = y0
      have H0 : Hid (Keep [] w y0 ∧ y0.heap[sz + 1 + 1 + 1]? = some (.cells #[.int .i64 0, .int .i64 0, .int .u32 0, .slice none 0 0, .int .u32 0, .bool false, .int .i64 0, .int .u32 0] 63 (0, 0)) ∧ w.heap.size = sz) := Lib.hid (by
        subst hy hsz
        exact ⟨((((Keep.refl _ _).alloc _).alloc _).alloc _).alloc _, heap_alloc_at _ (by simp), rfl⟩)
      clear hy hsz
      refine (rto_at ((DMem.keep0 HM.out H0.out.1)) cr 16 ps va kind hc (by omega) hp hv hk1 hk2).mono ?_
      rintro e y ⟨rfl, hk⟩
      rw [HQ.out]
      simp only
      obtain ⟨⟨c0, c1, c2, c3, c4, c5, c6, c7⟩, f0, f1, f2, f3, f4, f5, f6, f7⟩ := eight_cells (hk.heap H0.out.2.1 (by simp))
      have HF : Hid (∀ w3, Keep [sz + 1 + 1 + 1] y w3 → Keep [] w w3) := Lib.hid (fun w3 h3 => (H0.out.1.trans hk).then h3 (by have := H0.out.2.2; simp; omega))
      clear hk
      go_wp2_with fail
      exact bodyPost_ret (v := verV ⟨3, 0, 0, [], 0, false, 4 + kind, va⟩ (.slice none 0 0)) (by simp [results, Try.results15, go_sem, verV, c0, c1, c2, c3, c4, c5, c6, c7]) rfl (verPost_of ⟨rfl, rfl⟩ (reads_nil _) (HF.out _ (by repeat first | refine Keep.setCell ?_ (.inl (by simp)) _ | exact Keep.refl _ _)) (.inl rfl))
end Go.Proofs.Ytnpnedimgfbnhaa
