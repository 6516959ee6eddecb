/- The law DevOnce, walked. -/
import Derived.Test.YtgeakpeaohggoaaM09
namespace Go.Proofs.Ytgeakpeaohggoaa
open Go.RowKit Go.Mum
set_option linter.unusedVariables false
set_option linter.unusedSimpArgs false
set_option maxRecDepth 100000

/-- Between two looks. -/
def OnceI (w : World) (L : List Ev) (b N : Nat) (W : World) : Prop := ∃ F s, DvAt W b F s ∧ s.script = L.drop N ∧ N ≤ L.length ∧ Keep [] w W ∧ ∀ k ∈ F, w.heap.size ≤ k

theorem OnceI.keep0 {w W x : World} {L : List Ev} {b N : Nat} (h : OnceI w L b N W) (hk : Keep [] W x) : OnceI w L b N x := by
  obtain ⟨F, s, h1, h2, h3, h4, h5⟩ := h
  exact ⟨F, s, h1.keep0 hk, h2, h3, h4.trans hk, h5⟩

/-- Behind a look. -/
structure LookI (w : World) (L : List Ev) (b N : Nat) (A : Int) (c : Nat) (v : Value) (W : World) : Prop where
  le : N + c ≤ L.length
  dv : OnceI w L b (N + c) W
  ev : ∀ j, j < c → ∃ e, L[N + j]? = some e ∧ e.at' ≤ A
  nx : L.drop (N + c) = [] ∨ ∃ e r, L.drop (N + c) = e :: r ∧ ¬ e.at' ≤ A
  bf : Buf W 25 3 v c (evsC (((L.drop N).take c).map (lateE · A)))

theorem LookI.keep0 {w W x : World} {L : List Ev} {b N : Nat} {A : Int} {c : Nat} {v : Value} (h : LookI w L b N A c v W) (hk : Keep [] W x) : LookI w L b N A c v x :=
  ⟨h.le, h.dv.keep0 hk, h.ev, h.nx, h.bf.keep0 hk⟩

theorem once_look {w W : World} {L : List Ev} {b N : Nat} (h : OnceI w L b N W) (A : Int) (hA : -9223372036854775808 ≤ A ∧ A ≤ 9223372036854775807) :
    Calls Try.prog 12 #[.pointer (some ⟨b, 0, none⟩), .int .i64 A, .pointer none] W fun e w' => ∃ v c, e = .returned (.tuple #[v, .slice none 0 0]) ∧ c = cntD A (L.drop N) ∧ LookI w L b N A c v w' := by
  obtain ⟨F, s, h1, h2, h3, h4, h5⟩ := h
  refine (come_nil h1 A hA).mono ?_
  rintro e w' ⟨v, rfl, hb, hbk, F2, hd, hk, hf, hn⟩
  rw [h2] at hb hd
  refine ⟨v, _, rfl, rfl, ?_⟩
  have hle := cntD_le A (L.drop N)
  rw [List.length_drop] at hle
  refine ⟨by omega, ⟨F2, _, hd, ?_, by omega, keep_next h4 h5 hk, fresh_next (x := w') h5 h4.size hf⟩, fun j hj => ?_, ?_, hb⟩
  · show s.script.drop _ = _
    rw [h2, List.drop_drop]
  · obtain ⟨e, r, he, hle⟩ := cntD_lt A _ j hj
    rw [List.drop_drop] at he
    refine ⟨e, ?_, hle⟩
    have : (L.drop (N + j))[0]? = some e := by rw [he]; rfl
    simpa using this
  · have := cntD_end A (L.drop N)
    rw [List.drop_drop] at this
    exact this

theorem once_next {w W : World} {L : List Ev} {b N : Nat} {A : Int} {c : Nat} {v : Value} (h : LookI w L b N A c v W) (hA : 0 ≤ A ∧ A ≤ 9223372036854775807) :
    Calls Try.prog 16 #[.pointer (some ⟨b, 0, none⟩), .int .i64 A] W fun e w' => w' = W ∧ ((N + c = L.length ∧ e = .returned (.tuple #[.int .i64 0, .bool false])) ∨
      (N + c < L.length ∧ ∃ e', L[N + c]? = some e' ∧ ¬ e'.at' ≤ A ∧ e = .returned (.tuple #[.int .i64 (e'.at' - A), .bool true]))) := by
  obtain ⟨F, s, h1, h2, h3, h4, h5⟩ := h.dv
  refine (dnext_at h1 A (by omega)).mono ?_
  rintro e w' ⟨rfl, rfl⟩
  refine ⟨rfl, ?_⟩
  have hl : (L.drop (N + c)).length = L.length - (N + c) := List.length_drop ..
  unfold nextS
  rw [h2]
  rcases h.nx with he | ⟨e, r, he, hgt⟩
  · left
    rw [he] at hl ⊢
    simp at hl
    exact ⟨by omega, rfl⟩
  · right
    have hi : L[N + c]? = some e := by
      have : (L.drop (N + c))[0]? = some e := by rw [he]; rfl
      simpa using this
    rw [he] at hl ⊢
    simp at hl
    refine ⟨by omega, e, hi, hgt, ?_⟩
    simp only
    rw [show max 0 (e.at' - max A 0) = e.at' - A by omega]

theorem u16s_of_fits {w : World} {B n : Nat} {a : Option Addr} {len cap : Nat} (h : Fits Try.prog w B n 37 [.slice a len cap]) :
    len = 0 ∨ ∃ b off, a = some ⟨b, off, none⟩ ∧ len ≤ maxLen ∧ ∃ z : Nat → Int, ∀ i, i < len → w.cell? ⟨b, off + i, none⟩ = some (.int .u16 (z i)) ∧ 0 ≤ z i ∧ z i ≤ 65535 := by
  rcases h.ints Try.underlying37 Try.underlying38 (by kernel_rfl) with h | ⟨b, off, rfl, h0, h1, h2, h3, h4, z, hz⟩
  · exact .inl h
  · refine .inr ⟨b, off, rfl, by omega, z, fun i hi => ⟨(hz i hi).1, ?_⟩⟩
    have := (hz i hi).2
    simp only [Lit.wf, IntKind.min, IntKind.max, IntKind.signed, IntKind.bits, Bool.and_eq_true] at this
    simp at this
    exact this

theorem once_all {w W w2 : World} {L : List Ev} {b N n c : Nat} {v : Value} (hM : ∀ (i : Nat) (e : Ev), L[i]? = some e → 0 ≤ e.at' ∧ e.at' ≤ 1073741824) (hn : n = L.length) (h : OnceI w L b N W) (hc : c = cntD 1073741824 (L.drop N)) (hl : LookI w L b N 1073741824 c v w2) : N + c = n ∧ Keep [] w w2 := by
  have h1 : cntD 1073741824 (L.drop N) = (L.drop N).length := cntD_all (fun e he => by
    obtain ⟨i, hi⟩ := List.getElem?_of_mem (List.mem_of_mem_drop he)
    exact (hM i e hi).2)
  obtain ⟨F, s, h2, h3, h4, h5, h6⟩ := h
  obtain ⟨F', s', h2', h3', h4', h5', h6'⟩ := hl.dv
  rw [List.length_drop] at h1
  exact ⟨by omega, h5'⟩

set_option maxHeartbeats 8000000 in
theorem DevOnce_walk (s0 : Option Addr) (len0 cap0 n0 : Nat) (s1 : Option Addr) (len1 cap1 n1 : Nat) (w : World) (w0 : Fits Try.prog w maxLen n0 23 [.slice s0 len0 cap0]) (w1 : Fits Try.prog w maxLen n1 37 [.slice s1 len1 cap1]) :
    Calls Try.prog 4 #[.slice s0 len0 cap0, .slice s1 len1 cap1] w fun e w' => e = .returned (.bool true) ∧ Below w.heap.size w w' := by
  obtain ⟨L, rfl, hR, hL⟩ := evs_of_fits w0
  have HU := Lib.hid (u16s_of_fits w1)
  clear w0 w1
  by_cases hE : errS L 0 = 0
  · obtain ⟨hl, _, hmay, _⟩ := errS_zero hE
    have N1 := Lib.hid (new_yes hR hL hl hmay)
    have hM : ∀ (i : Nat) (e : Ev), L[i]? = some e → 0 ≤ e.at' ∧ e.at' ≤ 1073741824 := fun i e he => by
      have := (mayB_iff e).1 (hmay e (List.mem_of_getElem? he))
      exact ⟨this.2.2.1, this.2.2.2.1⟩
    have HM := Lib.hid hM
    have HR := Lib.hid hR
    obtain ⟨n, hn⟩ : ∃ n, n = L.length := ⟨_, rfl⟩
    have HN := Lib.hid hn
    rw [← hn] at N1 hl ⊢
    clear hmay hR hL hE hM hn
    go_enter Try.func4, Try.ntmps4
    go_wp2_with (first
      | (go_at_call 11; refine N1.out.mono ?_; rintro e w1 ⟨b, F, rfl, hd, hk, hf⟩; have HD1 := Lib.hid (show OnceI w L b 0 w1 from ⟨F, _, hd, rfl, Nat.zero_le _, hk, hf⟩); clear hd hk hf))
    go_loopw [7, 8, 9, 10, 11, 12, 13, 14, 29, 30, 31, 32, 33, 34, 35, 36, 37, 38, 39, 40, 41, 42, 43, 44, 45, 46, 47, 48, 49, 50, 51, 52, 53, 54, 55, 56, 57, 58, 59, 60, 61, 62, 63, 64, 65, 66, 67, 68, 69, 70, 71, 72, 73, 74, 75, 76, 77, 78, 79, 80, 81, 82, 83, 84, 85, 86, 87, 88, 89, 90, 91, 92, 93, 94, 95, 96, 97, 98, 99, 100, 101, 102, 103, 104, 105, 106, 107, 108, 109, 110, 111, 112, 113, 114, 115, 116, 117, 118, 119, 120, 121, 122, 123, 124, 125, 126, 127, 128, 129, 130, 131, 132, 133] (fun i7 i8 i9 _ _ _ _ _ _ _ _ _ _ _ _ _ _ _ _ _ _ _ _ _ _ _ _ _ _ _ _ _ _ _ _ _ _ _ _ _ _ _ _ _ _ _ _ _ _ _ _ _ _ _ _ _ _ _ _ _ _ _ _ _ _ _ _ _ _ _ _ _ _ _ _ _ _ _ _ _ _ _ _ _ _ _ _ _ _ _ _ _ _ _ _ _ _ _ _ _ _ _ _ _ _ _ _ _ _ _ _ _ _ wr =>  ∃ (k N : Nat) (A : Int), i9 = .int .i64 k ∧ i7 = .int .i64 N ∧ i8 = .int .i64 A ∧ k ≤ len1 ∧ k ≤ 80 ∧ 0 ≤ A ∧ A ≤ 65535 * k ∧ Hid (OnceI w L b N wr)) (fun _ _ i9 _ _ _ _ _ _ _ _ _ _ _ _ _ _ _ _ _ _ _ _ _ _ _ _ _ _ _ _ _ _ _ _ _ _ _ _ _ _ _ _ _ _ _ _ _ _ _ _ _ _ _ _ _ _ _ _ _ _ _ _ _ _ _ _ _ _ _ _ _ _ _ _ _ _ _ _ _ _ _ _ _ _ _ _ _ _ _ _ _ _ _ _ _ _ _ _ _ _ _ _ _ _ _ _ _ _ _ _ _ _ _ =>  80 - (intOf i9).toNat)
    case atStart => exact ⟨0, 0, 0, rfl, rfl, rfl, by omega, by omega, by omega, by omega, HD1⟩
    case round =>
      obtain ⟨k, N, A, rfl, rfl, rfl, hk, hk80, hA0, hA1, HI⟩ := hrel
      have hNn : N ≤ n := by obtain ⟨F, s, h1, h2, h3, h4, h5⟩ := HI.out; have := HN.out; omega
      rename World => wo
      by_cases hk1 : k < len1 ∧ k < 80
      · obtain ⟨hk1, hk2⟩ := hk1
        have t1 : decide ((k : Int) < (len1 : Int)) = true := decide_eq_true (by omega)
        have t2 : decide ((k : Int) < 80) = true := decide_eq_true (by omega)
        obtain hz | ⟨ub, uoff, rfl, hmx, z, hz⟩ := HU.out
        · omega
        obtain ⟨hzc, hz0, hz1⟩ := hz k hk1
        have hkw : Keep [] w wo := by obtain ⟨F, s, h1, h2, h3, h4, h5⟩ := HI.out; exact h4
        have hzc := hkw.cell hzc (by simp)
        generalize z k = u at *
        have c1 : IntKind.i64.wrap u = u := by rw [IntKind.wrap_i64]; omega
        have c2 : IntKind.i64.wrap (A + u) = A + u := by rw [IntKind.wrap_i64]; omega
        clear hz hkw
        go_wp2_with (first
          | (go_at_call 12; refine (once_look HI.out (A + u) (by omega)).mono ?_; rintro e w2 ⟨v, c, rfl, hc, hlk⟩; obtain ⟨va, vc, rfl, hvc1, hvc2⟩ := hlk.bf.shape; have HK := Lib.hid hlk; have HC := Lib.hid hc; clear hlk hc))
        obtain ⟨A', hA'⟩ : ∃ A', A' = A + u := ⟨_, rfl⟩
        rw [← hA'] at HK HC ⊢
        have hA2 : 0 ≤ A' ∧ A' ≤ 65535 * (k + 1) := by omega
        have hcle : N + c ≤ n := by have := HK.out.le; have := HN.out; omega
        clear c1 c2 hzc hA' hA0 hA1 hz0 hz1
        go_loopw [7, 12, 52, 53, 54, 55, 56, 57, 58, 59, 60, 61, 62, 63, 64, 65, 66, 67, 68, 69, 70, 71, 72, 73, 74, 75, 76, 77, 78, 79, 80, 81, 82, 83, 84, 85, 86, 87, 88, 89, 90, 91, 92, 93, 94, 95, 96, 97, 98, 99, 100, 101, 102, 103, 104, 105, 106, 107] (fun i7 i12 _ _ _ _ _ _ _ _ _ _ _ _ _ _ _ _ _ _ _ _ _ _ _ _ _ _ _ _ _ _ _ _ _ _ _ _ _ _ _ _ _ _ _ _ _ _ _ _ _ _ _ _ _ _ _ _ wr =>  ∃ (j q : Nat), i12 = .int .i64 j ∧ i7 = .int .i64 q ∧ q = N + j ∧ j ≤ c ∧ Hid (Keep [] w2 wr)) (fun _ i12 _ _ _ _ _ _ _ _ _ _ _ _ _ _ _ _ _ _ _ _ _ _ _ _ _ _ _ _ _ _ _ _ _ _ _ _ _ _ _ _ _ _ _ _ _ _ _ _ _ _ _ _ _ _ _ _ _ =>  c - (intOf i12).toNat)
        case atStart => exact ⟨0, N, rfl, rfl, rfl, by omega, Lib.hid (Keep.refl _ _)⟩
        case round =>
          obtain ⟨j, q, rfl, rfl, hq, hj, HKj⟩ := hrel
          by_cases hjc : j < c
          · have t3 : decide ((j : Int) < (c : Int)) = true := decide_eq_true (by omega)
            obtain ⟨e, he, hle⟩ := HK.out.ev j hjc
            have hlate : (((L.drop N).take c).map (lateE · A'))[j]? = some (lateE e A') := by
              rw [List.getElem?_map, List.getElem?_take_of_lt hjc, List.getElem?_drop, he]; rfl
            obtain ⟨g0, g1, g2⟩ := evsC_get hlate
            rw [← hq] at he
            obtain ⟨f0, f1, f2⟩ := evsC_get he
            obtain ⟨gb, goff, gc, hv, _, hgc⟩ := (HK.out.bf.keep0 HKj.out).cells (by omega)
            injection hv with hv1 hv2 hv3
            subst hv1 hv3
            obtain hz | ⟨sb, soff, rfl, hsc⟩ := HR.out.at'
            · have := HN.out; omega
            have hkw : Keep [] w wr := by obtain ⟨F, s, h1, h2, h3, h4, h5⟩ := (HK.out.dv.keep0 HKj.out); exact h4
            have a0 : wr.cell? ⟨gb, goff + j * 3, none⟩ = some (.int .i64 A') := hgc _ _ g0
            have a1 : wr.cell? ⟨gb, goff + j * 3 + 1, none⟩ = some (.int .i64 e.kd) := hgc _ _ g1
            have a2 : wr.cell? ⟨gb, goff + j * 3 + 2, none⟩ = some (.int .u8 e.by') := hgc _ _ g2
            have b0 : wr.cell? ⟨sb, soff + q * 3, none⟩ = some (.int .i64 e.at') := hkw.cell (hsc _ _ f0) (by simp)
            have b1 : wr.cell? ⟨sb, soff + q * 3 + 1, none⟩ = some (.int .i64 e.kd) := hkw.cell (hsc _ _ f1) (by simp)
            have b2 : wr.cell? ⟨sb, soff + q * 3 + 2, none⟩ = some (.int .u8 e.by') := hkw.cell (hsc _ _ f2) (by simp)
            have hqn : q < n := by omega
            have t4 : decide ((n : Int) ≤ (q : Int)) = false := decide_eq_false (by omega)
            have t5 : decide (A' < e.at') = false := decide_eq_false (by omega)
            have HQ := Lib.hid hq
            clear g0 g1 g2 f0 f1 f2 hgc hsc hlate he hkw hq
            go_wp2_with fail
            go_quiet (fail)
            go_wp2_with fail
            go_roundw
            case rel => exact ⟨j + 1, q + 1, by go_num, by go_num, by have := HQ.out; omega, by omega, Lib.hid (HKj.out.drewN _)⟩
            case measure => simp [intOf]; omega
          · obtain rfl : j = c := by omega
            have t3 : decide ((j : Int) < (j : Int)) = false := decide_eq_false (by omega)
            have HW := Lib.hid (HK.out.keep0 HKj.out)
            clear HK HKj
            go_wp2_with fail
            refine (once_next HW.out ⟨hA2.1, by omega⟩).mono ?_
            rintro e w3 ⟨rfl, ⟨hend, rfl⟩ | ⟨hlt, ev, hev, hgt, rfl⟩⟩
            · have t4 : decide ((q : Int) < (n : Int)) = false := decide_eq_false (by have := HN.out; omega)
              have t6 : n ≤ q := by have := HN.out; omega
              have HQ := Lib.hid hq
              clear hend hq
              go_wp2_with fail
              go_roundw
              case rel => exact ⟨k + 1, q, A', by go_num, rfl, rfl, by omega, by omega, by omega, by omega, Lib.hid (by rw [HQ.out]; exact HW.out.dv)⟩
              case measure => simp [intOf]; omega
            · have hqn : q < n := by have := HN.out; omega
              have t4 : decide ((q : Int) < (n : Int)) = true := decide_eq_true (by omega)
              have hb := HM.out _ _ hev
              rw [← hq] at hev
              obtain ⟨f0, f1, f2⟩ := evsC_get hev
              obtain hz | ⟨sb, soff, rfl, hsc⟩ := HR.out.at'
              · have := HN.out; omega
              have hkw : Keep [] w w3 := by obtain ⟨F, s, h1, h2, h3, h4, h5⟩ := HW.out.dv; exact h4
              have b0 : w3.cell? ⟨sb, soff + q * 3, none⟩ = some (.int .i64 ev.at') := hkw.cell (hsc _ _ f0) (by simp)
              have s1 : IntKind.i64.wrap (ev.at' - A') = ev.at' - A' := by rw [IntKind.wrap_i64]; omega
              have HQ := Lib.hid hq
              clear f0 f1 f2 hsc hkw hev hq
              go_wp2_with fail
              go_roundw
              case rel => exact ⟨k + 1, q, A', by go_num, rfl, rfl, by omega, by omega, by omega, by omega, Lib.hid (by rw [HQ.out]; exact HW.out.dv)⟩
              case measure => simp [intOf]; omega
      · have hcase : (¬ k < len1 ∧ decide ((k : Int) < (len1 : Int)) = false) ∨ ((k < len1 ∧ ¬ k < 80) ∧ decide ((k : Int) < (len1 : Int)) = true ∧ decide ((k : Int) < 80) = false) := by
          simp only [decide_eq_false_iff_not, decide_eq_true_eq]; omega
        clear hk1
        rcases hcase with ⟨hk1, t1⟩ | ⟨⟨hk1, hk2⟩, t1, t2⟩
        all_goals
          go_wp2_with (first
            | (go_at_call 12; refine (once_look HI.out 1073741824 (by omega)).mono ?_; rintro e w2 ⟨v, c, rfl, hc, hlk⟩; obtain ⟨va, vc, rfl, hvc1, hvc2⟩ := hlk.bf.shape; have HC : Hid (N + c = n ∧ Keep [] w w2) := Lib.hid (once_all HM.out HN.out HI.out hc hlk); have HE := Lib.hid (show ((N : Int) + (c : Int)) = (n : Int) by have := HC.out.1; omega); have hw1 : IntKind.i64.wrap ((N : Int) + (c : Int)) = (n : Int) := (by rw [HE.out, IntKind.wrap_i64]; omega); clear hlk hc)
            | (go_at_call 15; refine (works_at _).mono ?_; rintro e w3 ⟨rfl, hk⟩; have HK2 := Lib.hid hk; clear hk))
          go_ret
          exact ⟨rfl, (HC.out.2.trans HK2.out).below (Nat.le_refl _) (by simp)⟩
  · have N1 := Lib.hid (new_no (a2 := none) (c2 := 0) hR hE)
    have hle := errS_cases hE
    generalize errS L 0 = E at *
    clear hR hL
    rcases hle with rfl | rfl
    all_goals
      go_enter Try.func4, Try.ntmps4
      go_wp2_with (first
        | (go_at_call 11; refine N1.out.mono ?_; rintro e w1 ⟨rfl, hk⟩; have HK1 := Lib.hid hk; clear hk)
        | (go_at_call 15; refine (works_at _).mono ?_; rintro e w2 ⟨rfl, hk⟩; have HK2 := Lib.hid hk; clear hk))
      go_ret
      exact ⟨rfl, (HK1.out.trans HK2.out).below (Nat.le_refl _) (by simp)⟩

end Go.Proofs.Ytgeakpeaohggoaa
