/- Contracts of the functions that the law reaches, walked, and the plain laws on them (several texts in one). -/
import Derived.Test.YtgeakpeaohggoaaM19

/- Devices: they are loaded as they were saved, or are refused. -/
namespace Go.Proofs.Ytgeakpeaohggoaa
open Go.RowKit Go.Mum
set_option linter.unusedVariables false
set_option linter.unusedSimpArgs false
set_option maxRecDepth 100000

theorem _root_.Go.wpList_load_midG {P : Program} {ops : Array Oper} {rest : List Oper} {op : Oper} {a : Act} {w : World} {Q : Exit → Act → World → Prop} (hw : Region.wanted op (yielded ops a.tmps) = true) (ty : TypeId) (x : Operand) (ho : op.op = .load ty x)
    (b o : Nat) (hx : a.eval x = .pointer (some ⟨b, o, none⟩)) (cs : List Value) (d : TypeDesc) (hc : w.rangeAt b o cs)
    (hu : P.underlying ty = some d) (hd : d.isRow = true) (hi : (P.info? ty).map (·.size) = some cs.length)
    (h : wpList P ops Q rest (a.put op.dst (.agg cs.toArray)) w) : wpList P ops Q (op :: rest) a w :=
  wpList_step fun _ hK => by rw [if_pos hw]; exact wp_load_mid ty x ho b o hx cs d hc hu hd hi (hK _ _ h)

theorem andNot7 (a : Nat) (ha : a < 4294967296) : bits .andNot .u32 (a : Int) 7 = ((a / 8 * 8 : Nat) : Int) := by
  have h1 : (BitVec.ofInt 32 (a : Int)).toNat = a := by
    rw [BitVec.ofInt_natCast, BitVec.toNat_ofNat]; exact Nat.mod_eq_of_lt (by omega)
  show IntKind.u32.wrap ((BitVec.ofInt 32 (a : Int) &&& ~~~BitVec.ofInt 32 7).toNat : Int) = _
  have e : (BitVec.ofInt 32 (a : Int) &&& ~~~BitVec.ofInt 32 7).toNat = a / 8 * 8 := by
    apply Nat.eq_of_testBit_eq
    intro i
    rw [BitVec.toNat_and, Nat.testBit_and, h1, BitVec.testBit_toNat, BitVec.getLsbD_not, show a / 8 * 8 = 2 ^ 3 * (a / 2 ^ 3) by rw [Nat.mul_comm], Nat.testBit_two_pow_mul, Nat.testBit_div_two_pow]
    by_cases hi : i < 3
    · have : i = 0 ∨ i = 1 ∨ i = 2 := by omega
      rcases this with rfl | rfl | rfl <;> simp
    · have h3 : 3 ≤ i := by omega
      rw [show i - 3 + 3 = i by omega]
      by_cases h32 : i < 32
      · have hz : (BitVec.ofInt 32 7).getLsbD i = false := by
          rw [show (7 : Int) = ((7 : Nat) : Int) by rfl, BitVec.ofInt_natCast, BitVec.getLsbD_ofNat]
          have : (7 : Nat).testBit i = false := Nat.testBit_lt_two_pow (Nat.lt_of_lt_of_le (show 7 < 2 ^ 3 by decide) (Nat.pow_le_pow_right (by decide) h3))
          simp [this]
        rw [hz]
        simp [h3, h32]
      · have : a.testBit i = false := Nat.testBit_lt_two_pow (Nat.lt_of_lt_of_le (show a < 2 ^ 32 by omega) (Nat.pow_le_pow_right (by decide) (by omega)))
        simp [this]
  rw [e, IntKind.wrap_u32]
  omega

/-- May a disk's status and command be? -/
def ordS (st kd fr to : Nat) : Bool := if st = 1 then (kd == 1 || kd == 2) else decide (st ≤ 2) && (kd == 0) && (fr == 0) && (to == 0)

theorem SvV.heap {w : World} {n : Nat} {A : Array Value} {o dk q sc : Value} {bits mask bk ad st kd fr to : Nat} (h : SvV A o dk q sc bits mask bk ad st kd fr to) (hh : w.heap[n]? = some (.cells A 47 (0, 0))) :
    w.cell? ⟨n, 23, none⟩ = some o ∧ w.cell? ⟨n, 24, none⟩ = some dk ∧ w.cell? ⟨n, 25, none⟩ = some q ∧ w.cell? ⟨n, 26, none⟩ = some sc ∧ w.cell? ⟨n, 27, none⟩ = some (.int .u32 bits) ∧ w.cell? ⟨n, 28, none⟩ = some (.int .u32 mask) ∧
      w.cell? ⟨n, 29, none⟩ = some (.int .u32 bk) ∧ w.cell? ⟨n, 30, none⟩ = some (.int .u32 ad) ∧ w.cell? ⟨n, 31, none⟩ = some (.int .u32 st) ∧ w.cell? ⟨n, 32, none⟩ = some (.int .u32 kd) ∧ w.cell? ⟨n, 33, none⟩ = some (.int .u32 fr) ∧ w.cell? ⟨n, 34, none⟩ = some (.int .u32 to) :=
  ⟨cell_of hh 23 h.c23, cell_of hh 24 h.c24, cell_of hh 25 h.c25, cell_of hh 26 h.c26, cell_of hh 27 h.c27, cell_of hh 28 h.c28, cell_of hh 29 h.c29, cell_of hh 30 h.c30, cell_of hh 31 h.c31, cell_of hh 32 h.c32, cell_of hh 33 h.c33, cell_of hh 34 h.c34⟩

set_option maxHeartbeats 2000000 in
theorem ordered_at (w : World) {A : Array Value} {o dk q sc : Value} {bits mask bk ad st kd fr to : Nat} (h : SvV A o dk q sc bits mask bk ad st kd fr to) :
    Calls Try.prog 45 #[.agg A] w fun e w' => e = .returned (.bool (ordS st kd fr to)) ∧ Keep [] w w' := by
  have hh : (w.alloc (.cells A 47)).heap[w.heap.size]? = some (.cells A 47 (0, 0)) := heap_alloc_at _ rfl
  obtain ⟨-, -, -, -, -, -, -, -, c31, c32, c33, c34⟩ := h.heap hh
  have hk : Keep [] w (w.alloc (.cells A 47)) := (Keep.refl _ _).alloc _
  obtain ⟨R, hR⟩ : ∃ R, R = ordS st kd fr to := ⟨_, rfl⟩
  rw [← hR]
  unfold ordS at hR
  have HR := Lib.hid hR
  clear hh h hR
  go_enter Try.func45, Try.ntmps45
  go_wp2_with fail
  all_goals
    go_ret
    refine ⟨ret_bool ?_, hk⟩
    rw [HR.out, Bool.eq_iff_iff]
    clear HR hk c31 c32 c33 c34
    split
    all_goals
      simp only [beq_eq_false_iff_ne, beq_iff_eq, ne_eq, Bool.or_eq_true, Bool.and_eq_true, decide_eq_true_eq, Bool.false_eq_true, Bool.true_eq_false, false_iff, true_iff] at *
      omega

/-- What is wrong with what was saved. -/
def loadErr (L : List Ev) (Dn Qn bits mask st kd fr to : Nat) : Nat :=
  if errS L Dn ≠ 0 then errS L Dn else if 32 < Qn then 3 else if bits < 8 ∧ mask < 8 ∧ ordS st kd fr to = true then 0 else 2

set_option maxHeartbeats 4000000 in
theorem load_no {w : World} {A : Array Value} {o : Value} {da qa sa : Option Addr} {dc qc sc bits mask bk ad st kd fr to : Nat} {D Q : List Int} {L : List Ev}
    (h : SvV A o (.slice da D.length dc) (.slice qa Q.length qc) (.slice sa L.length sc) bits mask bk ad st kd fr to)
    (hD : Row w da dc D) (hL : Rd w 3 sa L.length sc (evsC L)) (hok : ∀ e ∈ L, e.Ok) (hb : bits < 4294967296) (hm : mask < 4294967296) (he : loadErr L D.length Q.length bits mask st kd fr to ≠ 0) :
    Calls Try.prog 17 #[.agg A] w fun e w' => e = .returned (.tuple #[.pointer none, .int .i64 (loadErr L D.length Q.length bits mask st kd fr to : Nat)]) ∧ Keep [] w w' := by
  have hh : (w.alloc (.cells A 47)).heap[w.heap.size]? = some (.cells A 47 (0, 0)) := heap_alloc_at _ rfl
  have hk : Keep [] w (w.alloc (.cells A 47)) := (Keep.refl _ _).alloc _
  obtain ⟨-, c24, c25, c26, c27, c28, -⟩ := h.heap hh
  have O1 := Lib.hid (fun x => ordered_at x h)
  have hsz := h.size
  obtain ⟨E, hE⟩ : ∃ E, E = loadErr L D.length Q.length bits mask st kd fr to := ⟨_, rfl⟩
  rw [← hE] at he ⊢
  unfold loadErr at hE
  by_cases h1 : errS L D.length = 0
  · rw [if_neg (by simp [h1])] at hE
    have N1 := Lib.hid (new_ok (hL.keep0 hk) hok (hD.keep0 hk) h1)
    have hNb : Keep [] w (w.alloc (.cells A 47)) := hk
    clear hL hD hok
    by_cases h2 : 32 < Q.length
    · rw [if_pos h2] at hE
      have t2 : decide ((32 : Int) < (Q.length : Int)) = true := decide_eq_true (by omega)
      subst hE
      go_enter Try.func17, Try.ntmps17
      go_wp2_with (go_at_call 11; refine N1.out.mono ?_; rintro e w1 ⟨b, F, rfl, hd, hk1, hf⟩; have HK1 := Lib.hid hk1; have c25' := hk1.cell c25 (by simp); clear hd hk1 hf)
      go_ret2
      exact ⟨rfl, hNb.trans HK1.out⟩
    · rw [if_neg h2] at hE
      have t2 : decide ((32 : Int) < (Q.length : Int)) = false := decide_eq_false (by omega)
      have a1 := andNot7 bits hb
      have a2 := andNot7 mask hm
      have hE2 : ¬ (bits < 8 ∧ mask < 8 ∧ ordS st kd fr to = true) ∧ E = 2 := by
        split at hE
        · exact absurd hE he
        · exact ⟨by assumption, hE⟩
      obtain ⟨hno, rfl⟩ := hE2
      clear hE he
      by_cases h3 : bits < 8
      · have e1 : bits / 8 * 8 = 0 := by omega
        rw [e1] at a1
        by_cases h4 : mask < 8
        · have e2 : mask / 8 * 8 = 0 := by omega
          rw [e2] at a2
          have h5 : ordS st kd fr to = false := by
            cases ho : ordS st kd fr to
            · rfl
            · exact absurd ⟨h3, h4, ho⟩ hno
          rw [h5] at O1
          clear hno e1 e2
          go_enter Try.func17, Try.ntmps17
          go_wp2_with (first
            | (go_at_call 11; refine N1.out.mono ?_; rintro e w1 ⟨b, F, rfl, hd, hk1, hf⟩; have HK1 := Lib.hid hk1; have c25' := hk1.cell c25 (by simp); have c27' := hk1.cell c27 (by simp); have c28' := hk1.cell c28 (by simp); have hA := range_row (hk1.heap hh (by simp)); clear hd hk1 hf)
            | (refine wpList_load_midG (by rfl) 47 (.tmp 1) rfl w.heap.size 0 (by rfl) _ _ hA Try.underlying47 rfl (by rw [Array.length_toList, hsz]; exact info_saved) ?_)
            | (go_at_call 45; refine (O1.out _).mono ?_; rintro e w2 ⟨rfl, hk2⟩; have HK2 := Lib.hid hk2; clear hk2))
          go_ret2
          exact ⟨rfl, (hNb.trans HK1.out).trans HK2.out⟩
        · have e2 : ((mask / 8 * 8 : Nat) : Int) ≠ 0 := by omega
          have t3 : (((mask / 8 * 8 : Nat) : Int) == 0) = false := by simp; omega
          have t4 : (((mask / 8 * 8 : Nat) : Int) != 0) = true := by simp; omega
          generalize mask / 8 * 8 = mm at *
          clear hno e1
          go_enter Try.func17, Try.ntmps17
          go_wp2_with (first
            | (go_at_call 11; refine N1.out.mono ?_; rintro e w1 ⟨b, F, rfl, hd, hk1, hf⟩; have HK1 := Lib.hid hk1; have c25' := hk1.cell c25 (by simp); have c27' := hk1.cell c27 (by simp); have c28' := hk1.cell c28 (by simp); clear hd hk1 hf))
          go_ret2
          exact ⟨rfl, hNb.trans HK1.out⟩
      · have e2 : ((bits / 8 * 8 : Nat) : Int) ≠ 0 := by omega
        have t3 : (((bits / 8 * 8 : Nat) : Int) == 0) = false := by simp; omega
        have t4 : (((bits / 8 * 8 : Nat) : Int) != 0) = true := by simp; omega
        generalize bits / 8 * 8 = mm at *
        clear hno
        go_enter Try.func17, Try.ntmps17
        go_wp2_with (first
          | (go_at_call 11; refine N1.out.mono ?_; rintro e w1 ⟨b, F, rfl, hd, hk1, hf⟩; have HK1 := Lib.hid hk1; have c25' := hk1.cell c25 (by simp); have c27' := hk1.cell c27 (by simp); have c28' := hk1.cell c28 (by simp); clear hd hk1 hf))
        go_ret2
        exact ⟨rfl, hNb.trans HK1.out⟩
  · rw [if_pos h1] at hE
    have N1 := Lib.hid (new_no (a2 := da) (c2 := dc) (hL.keep0 hk) h1)
    rw [← hE] at N1 h1
    have hE0 : E = 3 ∨ E = 2 := by rw [hE]; exact errS_cases (by rw [← hE]; exact h1)
    clear hE hL hD
    rcases hE0 with rfl | rfl
    all_goals
      go_enter Try.func17, Try.ntmps17
      go_wp2_with (go_at_call 11; refine N1.out.mono ?_; rintro e w1 ⟨rfl, hk1⟩; have HK1 := Lib.hid hk1; clear hk1)
      go_ret2
      exact ⟨rfl, hk.trans HK1.out⟩

end Go.Proofs.Ytgeakpeaohggoaa
