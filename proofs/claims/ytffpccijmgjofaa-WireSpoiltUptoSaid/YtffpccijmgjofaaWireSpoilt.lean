/- The law WireSpoilt, walked. -/
import Derived.Test.YtffpccijmgjofaaWireSeals
import Derived.StillTailTactics
namespace Go.Proofs.Ytffpccijmgjofaa
open Go.RowKit Go.Mum

theorem own_block {w : World} {base : Nat} {t : TypeId} {v : Value} {L : List Int} (h : Own w base t v L) (h0 : 0 < L.length) :
    ∃ g c, v = .slice (some ⟨g, 0, none⟩) L.length c ∧ base ≤ g ∧ L.length ≤ c ∧ c ≤ maxLen := by
  rcases h.1.2 with ⟨rfl, h1⟩ | ⟨g, cap, cur, rfl, hb, hg, h1, h2, _⟩
  · omega
  · exact ⟨g, cap, rfl, hb, h1, h2⟩

theorem own_at {w : World} {base g c : Nat} {t : TypeId} {L : List Int} (h : Own w base t (.slice (some ⟨g, 0, none⟩) L.length c) L) :
    base ≤ g ∧ (∀ j, w.frozen? ⟨g, j, none⟩ = false) ∧ (∀ j, j < L.length → w.cell? ⟨g, j, none⟩ = some (.int .u8 (L.getD j 0))) ∧ L.length ≤ c ∧ c ≤ maxLen := by
  rcases h.1.2 with ⟨e, _⟩ | ⟨g', cap, cur, e, hb, hg, h1, h2, h3, h4⟩
  · cases e
  · simp only [Value.slice.injEq, Option.some.injEq, Addr.mk.injEq] at e
    obtain ⟨⟨rfl, _⟩, _, rfl⟩ := e
    refine ⟨hb, frozen_of hg, fun j hj => cell_of hg j ?_, h1, h2⟩
    have := congrArg (fun l => l[j]?) h4
    simp only [List.getElem?_take, Nat.mul_one, hj, if_true, Array.getElem?_toList] at this
    rw [this]
    simp [u8s, List.getElem?_eq_getElem hj, List.getD]

theorem own_set {w : World} {base g c : Nat} {t : TypeId} {L : List Int} (h : Own w base t (.slice (some ⟨g, 0, none⟩) L.length c) L) (j : Nat) (z : Int) (hz : 0 ≤ z ∧ z < 256) :
    Own (w.setCell ⟨g, j, none⟩ (.int .u8 z)) base t (.slice (some ⟨g, 0, none⟩) L.length c) (L.set j z) := by
  rcases h.1.2 with ⟨e, _⟩ | ⟨g', cap, cur, e, hb, hg, h1, h2, h3, h4⟩
  · cases e
  · simp only [Value.slice.injEq, Option.some.injEq, Addr.mk.injEq] at e
    obtain ⟨⟨rfl, _⟩, _, rfl⟩ := e
    refine ⟨⟨by simp [u8s], .inr ⟨g, c, _, by simp, hb, heap_set_same hg j _, by simpa using h1, h2, by simpa using h3, ?_⟩⟩, ?_⟩
    · simp only [List.length_set, Nat.mul_one, Array.toList_setIfInBounds]
      rw [List.take_set]
      simp only [Nat.mul_one] at h4
      rw [h4, u8s, u8s, List.map_set]
    · intro x hx
      rcases List.mem_or_eq_of_mem_set hx with hx | rfl
      · exact h.2 x hx
      · exact hz

theorem bits_xor_u8_nat (a b : Nat) (ha : a < 256) (hb : b < 256) : bits .xor .u8 (a : Int) (b : Int) = ((a ^^^ b : Nat) : Int) := by
  have hx : a ^^^ b < 2 ^ 8 := Nat.xor_lt_two_pow (by omega) (by omega)
  have h1 : (BitVec.ofInt 8 (a : Int)).toNat = a := by
    rw [BitVec.ofInt_natCast, BitVec.toNat_ofNat]; exact Nat.mod_eq_of_lt (by omega)
  have h2 : (BitVec.ofInt 8 (b : Int)).toNat = b := by
    rw [BitVec.ofInt_natCast, BitVec.toNat_ofNat]; exact Nat.mod_eq_of_lt (by omega)
  show IntKind.u8.wrap ((BitVec.ofInt 8 (a : Int) ^^^ BitVec.ofInt 8 (b : Int)).toNat : Int) = _
  rw [BitVec.toNat_xor, h1, h2, IntKind.wrap_u8]
  omega

theorem bit_test (m i b : Nat) (h : m / 2 ^ i % 2 = b) : ((m : Int) / 2 ^ i).tmod 2 = (b : Int) := by
  rw [show (m : Int) / 2 ^ i = ((m / 2 ^ i : Nat) : Int) by simp]
  generalize m / 2 ^ i = r at h ⊢
  rw [Int.tmod_eq_emod_of_nonneg (Int.natCast_nonneg _)]
  omega

/-- The loop's state. -/
def SpRel (w : World) (g c : Nat) (L : List Int) (f m i : Nat) (T : List Int) (wr : World) : Prop :=
  i ≤ 32 ∧ f + i ≤ 8 * (L.length + 4) ∧ T.length = L.length + 4 ∧ big T = big (sealL L) ^^^ 2 ^ f * (m % 2 ^ i) ∧ Own wr w.heap.size 5 (.slice (some ⟨g, 0, none⟩) T.length c) T ∧ Keep [] w wr

theorem sp_drew {w wr : World} {g c f m i : Nat} {L T : List Int} (h : SpRel w g c L f m i T wr) : SpRel w g c L f m i T wr.drew :=
  ⟨h.1, h.2.1, h.2.2.1, h.2.2.2.1, h.2.2.2.2.1.keep0 (Keep.refl _ _).drew, h.2.2.2.2.2.drew⟩

/-- A round that turns no bit. -/
theorem sp_zero {w wr : World} {g c f m i : Nat} {L T : List Int} (h : SpRel w g c L f m i T wr) (hi : i < 32) (hf : f + i < 8 * (L.length + 4)) (hb : m / 2 ^ i % 2 = 0) :
    SpRel w g c L f m (i + 1) T wr ∧ m % 2 ^ (i + 1) = m % 2 ^ i := by
  have e : m % 2 ^ (i + 1) = m % 2 ^ i := by rw [Nat.mod_pow_succ, hb]; simp
  exact ⟨⟨by omega, by omega, h.2.2.1, by rw [e]; exact h.2.2.2.1, h.2.2.2.2⟩, e⟩

/-- A round that turns one. -/
theorem sp_one {w wr : World} {g c f m i : Nat} {L T : List Int} (h : SpRel w g c L f m i T wr) (hi : i < 32) (hf : f + i < 8 * (L.length + 4)) (hb : m / 2 ^ i % 2 = 1) :
    SpRel w g c L f m (i + 1) (T.set ((f + i) / 8) (((T.getD ((f + i) / 8) 0).toNat ^^^ 2 ^ ((f + i) % 8) : Nat) : Int)) (wr.setCell ⟨g, (f + i) / 8, none⟩ (.int .u8 (((T.getD ((f + i) / 8) 0).toNat ^^^ 2 ^ ((f + i) % 8) : Nat) : Int))) ∧
      m % 2 ^ (i + 1) ≠ 0 := by
  obtain ⟨h1, h2, h3, h4, h5, h6⟩ := h
  have hlt : m % 2 ^ i < 2 ^ i := Nat.mod_lt _ (Nat.two_pow_pos i)
  have e : m % 2 ^ (i + 1) = m % 2 ^ i + 2 ^ i := by rw [Nat.mod_pow_succ, hb, Nat.mul_one]
  have ex : m % 2 ^ (i + 1) = m % 2 ^ i ^^^ 2 ^ i := by have := add_pow_xor (y := 1) hlt; rw [Nat.mul_one] at this; rw [e, this]
  have hj : (f + i) / 8 < T.length := by omega
  have hx : 0 ≤ T.getD ((f + i) / 8) 0 ∧ T.getD ((f + i) / 8) 0 < 256 := h5.2 _ (by simp [List.getD, List.getElem?_eq_getElem hj])
  have hp : (2 : Nat) ^ ((f + i) % 8) < 2 ^ 8 := Nat.pow_lt_pow_right (by decide) (by omega)
  have hz : (T.getD ((f + i) / 8) 0).toNat ^^^ 2 ^ ((f + i) % 8) < 256 := Nat.xor_lt_two_pow (n := 8) (by omega) hp
  refine ⟨⟨by omega, by omega, by simpa using h3, ?_, ?_, h6.setCell (.inr (own_at h5).1) _⟩, ?_⟩
  · rw [big_flip T _ _ h5.2 hj (by omega), h4, ex, mul_pow_xor, ← Nat.pow_add, Nat.xor_assoc, show 8 * ((f + i) / 8) + (f + i) % 8 = f + i by omega]
  · rw [List.length_set]
    exact own_set h5 _ _ (by omega)
  · have := Nat.two_pow_pos i
    omega

set_option maxRecDepth 100000 in
set_option maxHeartbeats 4000000 in
theorem WireSpoilt_walk (s0 : Option Addr) (len0 cap0 n0 : Nat) (c1 : Array Value) (n1 : Nat) (w : World) (w0 : Fits Try.prog w 1048576 n0 22 [.slice s0 len0 cap0]) (w1 : Fits Try.prog w 1048576 n1 49 c1.toList) :
    Calls Try.prog 10 #[.slice s0 len0 cap0, .agg c1] w fun e w' => e = .returned (.bool true) ∧ Below w.heap.size w w' := by
  obtain ⟨L, rfl, hR, hl⟩ := row_of_fits w0
  have hl' : L.length ≤ 1048576 := by omega
  have HL := Lib.hid hR
  obtain ⟨m2, hcl, hfs⟩ := w1.struct Try.underlying49
  obtain ⟨at0, mk, rfl, hat, hmk⟩ : ∃ at0 mk : Int, c1 = #[.int .i64 at0, .int .u32 mk] ∧ (-9223372036854775808 ≤ at0 ∧ at0 ≤ 9223372036854775807) ∧ 0 ≤ mk ∧ mk ≤ 4294967295 := by
    have hlen : c1.toList.length = 2 := hcl
    obtain ⟨l⟩ := c1
    match l, hlen with
    | [d0, d1], _ =>
      obtain ⟨z0, e0, g0⟩ := (hfs _ (.head _)).int Try.underlying3
      obtain ⟨z1, e1, g1⟩ := (hfs _ (.tail _ (.head _))).int Try.underlying34
      have q1 : Try.prog.cellsOf 3 = 1 := by kernel_rfl
      have q2 : Try.prog.cellsOf 34 = 1 := by kernel_rfl
      simp [q1] at e0
      simp [q2] at e1
      subst e0 e1
      exact ⟨z0, z1, rfl, wf_i64 g0, wf_u32 g1⟩
  clear w0 w1 hcl hfs hR hl
  obtain ⟨m, rfl⟩ : ∃ m : Nat, mk = m := ⟨mk.toNat, by omega⟩
  obtain ⟨hat0, hat1⟩ := hat
  have hm : m < 4294967296 := by omega
  clear hmk
  go_enter Try.func10, Try.ntmps10
  go_wp2_with fail
  have K00 : Hid (Keep [] w (w.alloc (.cells #[.int .i64 at0, .int .u32 m] 49))) := Lib.hid ((Keep.refl [] w).alloc _)
  refine (seal_at (HL.out.keep0 K00.out) (by omega)).mono ?_
  rintro e y0 ⟨v0, rfl, hO0, hK0⟩
  obtain ⟨g, c, hv, hg, hc1, hc2⟩ := own_block hO0 (by rw [sealL_length]; omega)
  subst hv
  have HI : Hid (SpRel w g c L 0 m 0 (sealL L) y0) := Lib.hid ⟨by omega, by omega, sealL_length L, by simp [Nat.mod_one], hO0.lower K00.out.size, K00.out.trans hK0⟩
  rw [sealL_length] at hc1 ⊢
  have hcell : y0.cell? ⟨w.heap.size, 0, none⟩ = some (.int .i64 at0) := (hK0.cell (cell_of (heap_alloc_same w _) 0 rfl) (by simp))
  have hcell1 : y0.cell? ⟨w.heap.size, 1, none⟩ = some (.int .u32 m) := (hK0.cell (cell_of (heap_alloc_same w _) 1 rfl) (by simp))
  have hne : g ≠ w.heap.size := by have := hg; simp at this; omega
  clear hO0 hK0 K00
  go_wp2_with fail
  obtain ⟨f, hf, hflt⟩ : ∃ f : Nat, wrap64 ((IntKind.u64.wrap at0).tmod (8 * ((L.length : Int) + 4))) = (f : Int) ∧ f < 8 * (L.length + 4) := by
    have h1 : 0 ≤ IntKind.u64.wrap at0 := by rw [IntKind.wrap_u64]; omega
    rw [Int.tmod_eq_emod_of_nonneg h1]
    have h2 := Int.emod_nonneg (IntKind.u64.wrap at0) (b := 8 * ((L.length : Int) + 4)) (by omega)
    have h3 := Int.emod_lt_of_pos (IntKind.u64.wrap at0) (b := 8 * ((L.length : Int) + 4)) (by omega)
    generalize IntKind.u64.wrap at0 % (8 * ((L.length : Int) + 4)) = r at h2 h3
    refine ⟨r.toNat, ?_, by omega⟩
    unfold wrap64
    omega
  rw [hf]
  have HI2 : Hid (SpRel w g c L f m 0 (sealL L) y0) := Lib.hid ⟨by omega, by omega, HI.out.2.2.1, by simp [Nat.mod_one], HI.out.2.2.2.2⟩
  have hmk : y0.cell? ⟨w.heap.size, 1, none⟩ = some (.int .u32 m) := hcell1
  clear hf HI hcell
  go_loopw [7, 8] (fun tv iv wr => ∃ (i : Nat) (T : List Int) (tb : Bool), iv = .int .i64 i ∧ tv = .bool tb ∧ wr.cell? ⟨w.heap.size, 1, none⟩ = some (.int .u32 m) ∧ SpRel w g c L f m i T wr ∧ tb = decide (m % 2 ^ i ≠ 0)) (fun _ iv _ => 32 - (intOf iv).toNat)
  case atStart => exact ⟨0, sealL L, false, rfl, rfl, hmk, HI2.out, by simp [Nat.mod_one]⟩
  case round =>
    clear HI2 hmk
    obtain ⟨i, T, tb, rfl, rfl, hmk, hrel, htb⟩ := hrel
    have H := Lib.hid hrel
    have HB := Lib.hid htb
    clear htb
    obtain ⟨i32, fi, hTl, -⟩ := hrel
    by_cases hi : i < 32
    · by_cases hfi : f + i < 8 * (L.length + 4)
      · obtain ⟨-, hfz, hcl, -⟩ := own_at H.out.2.2.2.2.1
        by_cases hb : m / 2 ^ i % 2 = 1
        · have hb' : (((m : Int) / 2 ^ i).tmod 2 == 1) = true := by rw [bit_test m i 1 hb]; rfl
          have hj : f + i = 8 * ((f + i) / 8) + (f + i) % 8 := by omega
          have hc := hcl ((f + i) / 8) (by omega)
          have hz := hfz ((f + i) / 8)
          have hx : 0 ≤ T.getD ((f + i) / 8) 0 ∧ T.getD ((f + i) / 8) 0 < 256 := H.out.2.2.2.2.1.2 _ (by simp [List.getD, List.getElem?_eq_getElem (show (f + i) / 8 < T.length by omega)])
          have HS := Lib.hid (sp_one (sp_drew H.out) hi hfi hb)
          have hc' : wr.drew.cell? ⟨g, (f + i) / 8, none⟩ = some (.int .u8 (T.getD ((f + i) / 8) 0)) := hc
          have hz' : wr.drew.frozen? ⟨g, (f + i) / 8, none⟩ = false := hz
          have hmk' : wr.drew.cell? ⟨w.heap.size, 1, none⟩ = some (.int .u32 m) := hmk
          generalize hwd : wr.drew = wd at HS hc' hz' hmk'
          have Hwd := Lib.hid hwd
          clear hwd
          have hwp : IntKind.i64.wrap ((f : Int) + (i : Int)) = ((f + i : Nat) : Int) := by rw [IntWalk.i64_in _ (by omega)]; omega
          have hd : IntKind.i64.wrap (((f + i : Nat) : Int) / 8) = (((f + i) / 8 : Nat) : Int) := by rw [IntWalk.i64_in _ (by omega)]; omega
          have hr : ((f + i : Nat) : Int).tmod 8 = (((f + i) % 8 : Nat) : Int) := by rw [Int.tmod_eq_emod_of_nonneg (by omega)]; omega
          have hk8 : (f + i) % 8 < 8 := by omega
          have hj8 : (((f + i) / 8 : Nat) : Int) < (L.length : Int) + 4 := by omega
          have hp9 : f + i < 16777216 := by omega
          have hpl : ((f + i : Nat) : Int) < 8 * ((L.length : Int) + 4) := by omega
          obtain ⟨q, hq⟩ : ∃ q : Nat, q = 2 ^ ((f + i) % 8) := ⟨_, rfl⟩
          have hq8 : q < 256 := by rw [hq]; exact Nat.pow_lt_pow_right (a := 2) (n := 8) (by decide) hk8
          have hsh : IntKind.u8.wrap ((2 : Int) ^ ((f + i) % 8)) = (q : Int) := by
            rw [show (2 : Int) ^ ((f + i) % 8) = (q : Int) by rw [hq]; simp, IntKind.wrap_u8]; omega
          have hxo : bits BinOp.xor IntKind.u8 (T.getD ((f + i) / 8) 0) (q : Int) = (((T.getD ((f + i) / 8) 0).toNat ^^^ q : Nat) : Int) := by
            obtain ⟨y, hy⟩ : ∃ y : Nat, T.getD ((f + i) / 8) 0 = y := ⟨(T.getD ((f + i) / 8) 0).toNat, by omega⟩
            rw [hy] at hx ⊢
            exact bits_xor_u8_nat y q (by omega) hq8
          rw [← hq] at HS
          clear hq
          generalize hze : (((T.getD ((f + i) / 8) 0).toNat ^^^ q : Nat) : Int) = z at hxo HS
          generalize T.getD ((f + i) / 8) 0 = x at hc hc' hx HS hxo
          generalize (f + i) / 8 = j at *
          generalize (f + i) % 8 = k at *
          generalize hpe : f + i = p at hwp hd hr hp9 hpl
          have Hpe := Lib.hid hpe
          have Hj := Lib.hid hj
          clear hcl hfz hb hpe hj hfi hze
          go_wp2
          go_still_tail 19, (by kernel_rfl)
          change wpList _ _ _ _ _ wr.drew
          rw [Hwd.out]
          go_wp2
          go_roundw
          case rel => exact ⟨i + 1, T.set j z, true, by go_num, rfl, by rw [World.cell?_setCell_other _ _ _ _ (by simp)]; exact hmk', HS.out.1, by simp [HS.out.2]⟩
          case measure => simp [intOf]; omega
        · have hb0 : m / 2 ^ i % 2 = 0 := by omega
          have hb' : (((m : Int) / 2 ^ i).tmod 2 == 1) = false := by rw [bit_test m i 0 hb0]; rfl
          have HS := Lib.hid (sp_zero H.out hi hfi hb0)
          clear hcl hfz hb hb0
          go_wp2
          go_roundw
          case rel => exact ⟨i + 1, T, tb, by go_num, rfl, hmk, HS.out.1, by rw [HB.out, HS.out.2]⟩
          case measure => simp [intOf]; omega
      · have hfi2 : ¬ ((f : Int) + (i : Int) < 8 * ((L.length : Int) + 4)) := by omega
        have hO := open_spoilt (F := m % 2 ^ i) (f := f) HL.out.bytes H.out.2.2.2.2.1.2 hTl (by omega) (Nat.lt_of_le_of_lt (Nat.mod_le _ _) hm) H.out.2.2.2.1
        obtain ⟨ao, co, hv, hRT⟩ := H.out.2.2.2.2.1.shape
        have C1 := open_at hRT (by omega)
        rw [← hv, hO, hTl] at C1
        have C := Lib.hid C1
        have HK := Lib.hid H.out.2.2.2.2.2
        clear hO hv hRT C1 H hmk
        by_cases hF : m % 2 ^ i = 0
        · obtain rfl : tb = false := by rw [HB.out]; simp [hF]
          rw [if_pos hF] at C
          clear hF HB
          go_wp2_with fail
          refine C.out.mono ?_
          rintro e y2 ⟨b2, c2, rfl, hR2, hK2⟩
          have H2 := Lib.hid (HK.out.trans hK2)
          have g2 : Str y2 b2 L.length c2 L := str_of hR2 rfl
          have g0 : Str y2 s0 L.length cap0 L := str_of (HL.out.keep0 H2.out) rfl
          unfold Str at g2 g0
          clear hR2 hK2 C
          go_wp2_with fail
          refine (works_at _).mono ?_
          rintro e y4 ⟨rfl, hK4⟩
          have hF := Lib.hid (Keep.below (H2.out.trans hK4) (Nat.le_refl _) (by simp))
          clear hK4
          go_wp2_with fail
          go_ret
          exact ⟨rfl, hF.out⟩
        · obtain rfl : tb = true := by rw [HB.out]; simp [hF]
          rw [if_neg hF] at C
          clear hF HB
          go_wp2_with fail
          refine C.out.mono ?_
          rintro e y2 ⟨b2, c2, rfl, hR2, hK2⟩
          have H2 := Lib.hid (HK.out.trans hK2)
          clear hR2 hK2 C
          go_wp2_with fail
          refine (works_at _).mono ?_
          rintro e y4 ⟨rfl, hK4⟩
          have hF := Lib.hid (Keep.below (H2.out.trans hK4) (Nat.le_refl _) (by simp))
          clear hK4
          go_wp2_with fail
          go_ret
          exact ⟨rfl, hF.out⟩
    · have hi2 : ¬ ((i : Int) < 32) := by omega
      have hO := open_spoilt (F := m % 2 ^ i) (f := f) HL.out.bytes H.out.2.2.2.2.1.2 hTl (by omega) (Nat.lt_of_le_of_lt (Nat.mod_le _ _) hm) H.out.2.2.2.1
      obtain ⟨ao, co, hv, hRT⟩ := H.out.2.2.2.2.1.shape
      have C1 := open_at hRT (by omega)
      rw [← hv, hO, hTl] at C1
      have C := Lib.hid C1
      have HK := Lib.hid H.out.2.2.2.2.2
      clear hO hv hRT C1 H hmk
      by_cases hF : m % 2 ^ i = 0
      · obtain rfl : tb = false := by rw [HB.out]; simp [hF]
        rw [if_pos hF] at C
        clear hF HB
        go_wp2_with fail
        refine C.out.mono ?_
        rintro e y2 ⟨b2, c2, rfl, hR2, hK2⟩
        have H2 := Lib.hid (HK.out.trans hK2)
        have g2 : Str y2 b2 L.length c2 L := str_of hR2 rfl
        have g0 : Str y2 s0 L.length cap0 L := str_of (HL.out.keep0 H2.out) rfl
        unfold Str at g2 g0
        clear hR2 hK2 C
        go_wp2_with fail
        refine (works_at _).mono ?_
        rintro e y4 ⟨rfl, hK4⟩
        have hF := Lib.hid (Keep.below (H2.out.trans hK4) (Nat.le_refl _) (by simp))
        clear hK4
        go_wp2_with fail
        go_ret
        exact ⟨rfl, hF.out⟩
      · obtain rfl : tb = true := by rw [HB.out]; simp [hF]
        rw [if_neg hF] at C
        clear hF HB
        go_wp2_with fail
        refine C.out.mono ?_
        rintro e y2 ⟨b2, c2, rfl, hR2, hK2⟩
        have H2 := Lib.hid (HK.out.trans hK2)
        clear hR2 hK2 C
        go_wp2_with fail
        refine (works_at _).mono ?_
        rintro e y4 ⟨rfl, hK4⟩
        have hF := Lib.hid (Keep.below (H2.out.trans hK4) (Nat.le_refl _) (by simp))
        clear hK4
        go_wp2_with fail
        go_ret
        exact ⟨rfl, hF.out⟩
end Go.Proofs.Ytffpccijmgjofaa
