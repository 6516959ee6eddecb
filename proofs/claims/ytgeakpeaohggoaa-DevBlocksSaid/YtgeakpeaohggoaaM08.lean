/- Contracts of the functions that the law reaches, walked, and the plain laws on them (several texts in one). -/
import Derived.StillTailTactics
import Derived.Test.YtgeakpeaohggoaaM07
import Derived.Test.YtgeakpeaohggoaaM02
import Derived.Test.YtgeakpeaohggoaaM01

/- Devices: what is asked for; an interrupt is taken; a port is written. -/
namespace Go.Proofs.Ytgeakpeaohggoaa
open Go.RowKit Go.Mum
set_option linter.unusedVariables false
set_option linter.unusedSimpArgs false
set_option maxRecDepth 100000

theorem fin8_sub : ∀ (m : Fin 8) (i : Fin 3), (7 - m.val).testBit i.val = !m.val.testBit i.val := by decide

/-- 'b &^ v', where b is less than 8. -/
theorem andNot8 (b v : Nat) (hb : b < 8) (hv : v < 4294967296) : bits .andNot .u32 (b : Int) (v : Int) = ((b &&& (7 - v % 8) : Nat) : Int) := by
  have h1 : (BitVec.ofInt 32 (b : Int)).toNat = b := by rw [BitVec.ofInt_natCast, BitVec.toNat_ofNat]; exact Nat.mod_eq_of_lt (by omega)
  have h2 : (BitVec.ofInt 32 (v : Int)).toNat = v := by rw [BitVec.ofInt_natCast, BitVec.toNat_ofNat]; exact Nat.mod_eq_of_lt (by omega)
  show IntKind.u32.wrap ((BitVec.ofInt 32 (b : Int) &&& ~~~BitVec.ofInt 32 (v : Int)).toNat : Int) = _
  have e : (BitVec.ofInt 32 (b : Int) &&& ~~~BitVec.ofInt 32 (v : Int)).toNat = b &&& (7 - v % 8) := by
    apply Nat.eq_of_testBit_eq
    intro i
    rw [BitVec.toNat_and, Nat.testBit_and, Nat.testBit_and, h1, BitVec.testBit_toNat, BitVec.getLsbD_not]
    by_cases hi : i < 3
    · have h3 := fin8_sub ⟨v % 8, Nat.mod_lt _ (by decide)⟩ ⟨i, hi⟩
      simp only at h3
      rw [h3, show (8 : Nat) = 2 ^ 3 by rfl, Nat.testBit_mod_two_pow, ← BitVec.testBit_toNat, h2]
      simp [hi, show i < 32 by omega]
    · have : b.testBit i = false := Nat.testBit_lt_two_pow (Nat.lt_of_lt_of_le hb (show 2 ^ 3 ≤ 2 ^ i from Nat.pow_le_pow_right (by decide) (by omega)))
      simp [this]
  have hl : b &&& (7 - v % 8) < 8 := Nat.lt_of_le_of_lt Nat.and_le_left hb
  rw [e, IntKind.wrap_u32]
  omega

/-- What is asked for. -/
def askS (s : DS) : Nat := s.bits &&& (7 - s.mask)
def wantN (ps a : Nat) : Int := if ps / 2 % 2 = 0 then 0 else if a % 2 = 1 then 9 else if a / 2 % 2 = 1 then 10 else if a / 4 % 2 = 1 then 11 else 0

theorem askS_lt {s : DS} (h : s.bits < 8) : askS s < 8 := Nat.lt_of_le_of_lt Nat.and_le_left h

set_option maxHeartbeats 1000000 in
theorem twants_at (w : World) (ps a : Nat) (hps : ps < 4294967296) (ha : a < 8) :
    Calls Try.prog 55 #[.int .u32 (ps : Nat), .int .u32 (a : Nat)] w fun e w' => e = .returned (.int .i64 (wantN ps a)) ∧ w' = w := by
  have h1 : bits .and .u32 (ps : Int) 2 = ((ps / 2 % 2 * 2 : Nat) : Int) := by
    have := and_u32 ps 2 hps (by omega)
    rw [show ps &&& 2 = ps / 2 % 2 * 2 from and_pow ps 1] at this
    exact this
  obtain ⟨p, hp⟩ : ∃ p, p = ps / 2 % 2 := ⟨_, rfl⟩
  have hp2 : p = 0 ∨ p = 1 := by omega
  unfold wantN
  rw [← hp] at h1 ⊢
  clear hp
  rcases hp2 with rfl | rfl
  · go_enter Try.func55, Try.ntmps55
    go_wp2_with fail
    go_step3
    go_wp2_with fail
    rw [Exit.noGoto_ret]
    go_ret
    exact ⟨rfl, rfl⟩
  · have ha8 : a = 0 ∨ a = 1 ∨ a = 2 ∨ a = 3 ∨ a = 4 ∨ a = 5 ∨ a = 6 ∨ a = 7 := by omega
    rcases ha8 with rfl | rfl | rfl | rfl | rfl | rfl | rfl | rfl
    all_goals
      go_enter Try.func55, Try.ntmps55
      go_wp2_with fail
      go_step3
      go_wp2_with fail
      go_step3
      go_wp2_with fail
      refine wp_loop_rounds 4 ?_
      rw [rounds_succ]
      go_wp2_with fail
      repeat (rw [rounds_succ]; go_wp2_with fail)
      first
        | rw [Exit.noGoto_ret]
        | skip
      go_ret
      exact ⟨by simp, rfl⟩

theorem dwants_at {w : World} {b : Nat} {F : List Nat} {s : DS} (h : DvAt w b F s) (ps : Nat) (hps : ps < 4294967296) :
    Calls Try.prog 26 #[.pointer (some ⟨b, 0, none⟩), .int .u32 (ps : Nat)] w fun e w' => e = .returned (.int .i64 (wantN ps (askS s))) ∧ Keep [] w w' := by
  obtain ⟨ok, q, bl, sc, ou, hi, rfl⟩ := h
  have C0 := Lib.hid (dnone_no hi.made)
  have C1 := Lib.hid (asked_at (b := b) (bb := s.bits) (mm := s.mask) (cell_of hi.cs 0 rfl) (cell_of hi.cs 1 rfl))
  have hA : bits .andNot .u32 (s.bits : Int) (s.mask : Int) = ((askS s : Nat) : Int) := by
    rw [andNot8 _ _ ok.bits (by have := ok.mask; omega), Nat.mod_eq_of_lt ok.mask]; rfl
  have hl := askS_lt ok.bits
  clear hi ok
  rw [hA] at C1
  go_enter Try.func26, Try.ntmps26
  go_wp2_with (first | (go_at_call 37; refine C0.out.mono ?_; rintro e w' ⟨rfl, rfl⟩) | (go_at_call 56; refine C1.out.mono ?_; rintro e w' ⟨rfl, hk⟩; have HK := Lib.hid hk; clear hk) | (go_at_call 55; refine (twants_at _ _ _ hps hl).mono ?_; rintro e w' ⟨rfl, rfl⟩))
  go_ret
  exact ⟨rfl, HK.out⟩

/-- An interrupt is taken. -/
def takenS (s : DS) (c : Int) : DS := { s with bits := if c = 9 then s.bits &&& 6 else if c = 10 then s.bits &&& 5 else if c = 11 then s.bits &&& 3 else s.bits }

theorem takenS_ok {s : DS} (ok : s.Ok) (c : Int) : (takenS s c).Ok := by
  refine ⟨?_, ok.mask, ok.queue, ok.disk, ok.bk, ok.ad, ok.st, ok.kd, ok.fr, ok.to, ok.script, ok.out⟩
  have := ok.bits
  simp only [takenS]
  have h1 : s.bits &&& 6 ≤ s.bits := Nat.and_le_left
  have h2 : s.bits &&& 5 ≤ s.bits := Nat.and_le_left
  have h3 : s.bits &&& 3 ≤ s.bits := Nat.and_le_left
  (repeat' split) <;> omega

set_option maxHeartbeats 1000000 in
theorem dtaken_at {w : World} {b : Nat} {F : List Nat} {s : DS} (h : DvAt w b F s) (c : Int) :
    Calls Try.prog 27 #[.pointer (some ⟨b, 0, none⟩), .int .i64 c] w fun e w' => (∃ v, e = .returned v) ∧ DvTo b F (takenS s c) w w' := by
  obtain ⟨ok, q, bl, sc, ou, hi, rfl⟩ := h
  have C0 := Lib.hid (dnone_no hi.made)
  have e0 : w.cell? ⟨b, 0, none⟩ = some (.int .u32 s.bits) := cell_of hi.cs 0 rfl
  have f0 : ∀ i, w.frozen? ⟨b, i, none⟩ = false := frozen_of hi.cs
  have b6 : bits .andNot .u32 (s.bits : Int) 1 = ((s.bits &&& 6 : Nat) : Int) := andNot8 s.bits 1 ok.bits (by omega)
  have b5 : bits .andNot .u32 (s.bits : Int) 2 = ((s.bits &&& 5 : Nat) : Int) := andNot8 s.bits 2 ok.bits (by omega)
  have b3 : bits .andNot .u32 (s.bits : Int) 4 = ((s.bits &&& 3 : Nat) : Int) := andNot8 s.bits 4 ok.bits (by omega)
  have fin : ∀ n, ({ s with bits := n } : DS).Ok → DvTo b (b :: (blk q ++ blk bl ++ blk sc ++ blk ou)) { s with bits := n } w (w.setCell ⟨b, 0, none⟩ (.int .u32 (n : Nat))) := fun n hn =>
    hi.to hn ((Keep.refl _ _).setCell (.inl (by simp)) _) (heap_set_same hi.cs 0 _) rfl rfl rfl rfl
  have stay : DvTo b (b :: (blk q ++ blk bl ++ blk sc ++ blk ou)) s w w := ⟨_, ⟨ok, _, _, _, _, hi, rfl⟩, Keep.refl _ _, fun k hk => .inl hk⟩
  have hok := takenS_ok ok
  have fin2 : ∀ n, ({ s with bits := n } : DS).Ok → DvTo b (b :: (blk q ++ blk bl ++ blk sc ++ blk ou)) { s with bits := n } w (w.drew.setCell ⟨b, 0, none⟩ (.int .u32 (n : Nat))) := fun n hn =>
    hi.to hn ((Keep.refl _ _).drew.setCell (.inl (by simp)) _) (heap_set_same (w := w.drew) hi.cs 0 _) rfl rfl rfl rfl
  have d0 : w.drew.cell? ⟨b, 0, none⟩ = some (.int .u32 s.bits) := e0
  have d1 : ∀ i, w.drew.frozen? ⟨b, i, none⟩ = false := f0
  generalize hwd : w.drew = wd at fin2 d0 d1
  have Hwd := Lib.hid hwd
  have FIN := Lib.hid (And.intro fin2 (And.intro stay hok))
  clear fin fin2 stay hok hi ok hwd
  by_cases h9 : c = 9
  · subst h9
    have q0 : IntKind.i64.wrap 0 = 0 := by decide
    go_enter Try.func27, Try.ntmps27
    go_wp2_with (go_at_call 37; refine C0.out.mono ?_; rintro e w' ⟨rfl, rfl⟩)
    go_still_tail 12, (by kernel_rfl)
    change wpList _ _ _ _ _ (World.drew _)
    rw [Hwd.out]
    go_wp2
    go_end0
    rw [b6]
    exact ⟨⟨_, rfl⟩, FIN.out.1 (s.bits &&& 6) (FIN.out.2.2 9)⟩
  by_cases h10 : c = 10
  · subst h10
    have q0 : IntKind.i64.wrap 1 = 1 := by decide
    go_enter Try.func27, Try.ntmps27
    go_wp2_with (go_at_call 37; refine C0.out.mono ?_; rintro e w' ⟨rfl, rfl⟩)
    go_still_tail 12, (by kernel_rfl)
    change wpList _ _ _ _ _ (World.drew _)
    rw [Hwd.out]
    go_wp2
    go_end0
    rw [b5]
    exact ⟨⟨_, rfl⟩, FIN.out.1 (s.bits &&& 5) (FIN.out.2.2 10)⟩
  by_cases h11 : c = 11
  · subst h11
    have q0 : IntKind.i64.wrap 2 = 2 := by decide
    go_enter Try.func27, Try.ntmps27
    go_wp2_with (go_at_call 37; refine C0.out.mono ?_; rintro e w' ⟨rfl, rfl⟩)
    go_still_tail 12, (by kernel_rfl)
    change wpList _ _ _ _ _ (World.drew _)
    rw [Hwd.out]
    go_wp2
    go_end0
    rw [b3]
    exact ⟨⟨_, rfl⟩, FIN.out.1 (s.bits &&& 3) (FIN.out.2.2 11)⟩
  have hs : takenS s c = s := by simp [takenS, h9, h10, h11]
  rw [hs]
  have hc : (decide (9 ≤ c) = false) ∨ (decide (9 ≤ c) = true ∧ decide (c ≤ 11) = false) := by
    simp only [decide_eq_false_iff_not, decide_eq_true_eq]; omega
  rcases hc with hc | ⟨hc, hc2⟩
  all_goals
    go_enter Try.func27, Try.ntmps27
    go_wp2_with (go_at_call 37; refine C0.out.mono ?_; rintro e w' ⟨rfl, rfl⟩)
    go_end0
    exact ⟨⟨_, rfl⟩, FIN.out.2.1⟩

/-- A port is written. -/
def writeS (s : DS) (p : Int) (v : Nat) : DS :=
  if p = 0 then { s with out := s.out ++ [((v % 256 : Nat) : Int)] } else if p = 2 then { s with bk := v } else if p = 3 then { s with ad := v }
  else if p = 4 then (if s.st = 1 ∨ (v ≠ 1 ∧ v ≠ 2) then s else { s with st := 1, kd := v, fr := s.bk, to := s.ad })
  else if p = 5 then { s with mask := v % 8 } else if p = 6 then { s with bits := s.bits &&& (7 - v % 8) } else s

theorem writeS_ok {s : DS} (ok : s.Ok) (p : Int) (v : Nat) (hv : v < 4294967296) (ho : s.out.length < 1073741824) : (writeS s p v).Ok := by
  have hbits : s.bits &&& (7 - v % 8) < 8 := Nat.lt_of_le_of_lt Nat.and_le_left ok.bits
  unfold writeS
  split
  · refine ⟨ok.bits, ok.mask, ok.queue, ok.disk, ok.bk, ok.ad, ok.st, ok.kd, ok.fr, ok.to, ok.script, isBytes_append ok.out.1 (fun x hx => by simp at hx; omega), by simp; omega⟩
  split
  · exact ⟨ok.bits, ok.mask, ok.queue, ok.disk, hv, ok.ad, ok.st, ok.kd, ok.fr, ok.to, ok.script, ok.out⟩
  split
  · exact ⟨ok.bits, ok.mask, ok.queue, ok.disk, ok.bk, hv, ok.st, ok.kd, ok.fr, ok.to, ok.script, ok.out⟩
  split
  · split
    · exact ok
    · exact ⟨ok.bits, ok.mask, ok.queue, ok.disk, ok.bk, ok.ad, by simp, by simp; omega, ok.bk, ok.ad, ok.script, ok.out⟩
  split
  · exact ⟨ok.bits, Nat.mod_lt _ (by decide), ok.queue, ok.disk, ok.bk, ok.ad, ok.st, ok.kd, ok.fr, ok.to, ok.script, ok.out⟩
  split
  · exact ⟨hbits, ok.mask, ok.queue, ok.disk, ok.bk, ok.ad, ok.st, ok.kd, ok.fr, ok.to, ok.script, ok.out⟩
  · exact ok

set_option maxHeartbeats 1000000 in
theorem dcommand_at {w : World} {b : Nat} {F : List Nat} {s : DS} (h : DvAt w b F s) (v : Nat) (hv : v < 4294967296) :
    Calls Try.prog 52 #[.pointer (some ⟨b, 3, none⟩), .int .u32 (v : Nat)] w fun e w' => (∃ u, e = .returned u) ∧ DvTo b F (writeS s 4 v) w w' := by
  have C0 := Lib.hid (busy_at h.c6)
  obtain ⟨ok, q, bl, sc, ou, hi, rfl⟩ := h
  have stay : DvTo b (b :: (blk q ++ blk bl ++ blk sc ++ blk ou)) s w w := ⟨_, ⟨ok, _, _, _, _, hi, rfl⟩, Keep.refl _ _, fun k hk => .inl hk⟩
  have e4 : w.cell? ⟨b, 4, none⟩ = some (.int .u32 s.bk) := cell_of hi.cs 4 rfl
  have e5 : w.cell? ⟨b, 5, none⟩ = some (.int .u32 s.ad) := cell_of hi.cs 5 rfl
  have e6 : w.cell? ⟨b, 6, none⟩ = some (.int .u32 s.st) := cell_of hi.cs 6 rfl
  have e7 : w.cell? ⟨b, 7, none⟩ = some (.int .u32 s.kd) := cell_of hi.cs 7 rfl
  have e8 : w.cell? ⟨b, 8, none⟩ = some (.int .u32 s.fr) := cell_of hi.cs 8 rfl
  have e9 : w.cell? ⟨b, 9, none⟩ = some (.int .u32 s.to) := cell_of hi.cs 9 rfl
  have f0 : ∀ i, w.frozen? ⟨b, i, none⟩ = false := frozen_of hi.cs
  have ST := Lib.hid stay
  have HI := Lib.hid (And.intro ok hi)
  clear stay ok hi
  by_cases h1 : s.st = 1
  · have hs : writeS s 4 v = s := by simp [writeS, h1]
    have t1 : decide (s.st = 1) = true := decide_eq_true h1
    rw [hs]
    go_enter Try.func52, Try.ntmps52
    go_wp2_with (go_at_call 40; refine C0.out.mono ?_; rintro e w' ⟨rfl, rfl⟩)
    refine bodyPost_ret (results_none rfl _ _ _) rfl ?_
    exact ⟨⟨_, rfl⟩, ST.out⟩
  have t1 : decide (s.st = 1) = false := decide_eq_false h1
  by_cases h2 : v = 1 ∨ v = 2
  · have hs : writeS s 4 v = { s with st := 1, kd := v, fr := s.bk, to := s.ad } := by
      have : ¬ (s.st = 1 ∨ (v ≠ 1 ∧ v ≠ 2)) := by omega
      simp only [writeS, if_neg this]; simp
    have fin : DvTo b (b :: (blk q ++ blk bl ++ blk sc ++ blk ou)) (writeS s 4 v) w ((((w.setCell ⟨b, 7, none⟩ (.int .u32 (v : Nat))).setCell ⟨b, 8, none⟩ (.int .u32 s.bk)).setCell ⟨b, 9, none⟩ (.int .u32 s.ad)).setCell ⟨b, 6, none⟩ (.int .u32 1)) := by
      obtain ⟨ok, hi⟩ := HI.out
      rw [hs]
      have ok' : (writeS s 4 v).Ok := by
        rw [hs]
        exact ⟨ok.bits, ok.mask, ok.queue, ok.disk, ok.bk, ok.ad, by simp, by simp; omega, ok.bk, ok.ad, ok.script, ok.out⟩
      rw [hs] at ok'
      exact hi.to ok' (((((Keep.refl _ _).setCell (.inl (by simp)) _).setCell (.inl (by simp)) _).setCell (.inl (by simp)) _).setCell (.inl (by simp)) _) (by
        rw [heap_set_same (heap_set_same (heap_set_same (heap_set_same hi.cs 7 _) 8 _) 9 _) 6 _]; rfl) rfl rfl rfl rfl
    have FIN := Lib.hid fin
    clear fin hs
    rcases h2 with rfl | rfl
    all_goals
      go_enter Try.func52, Try.ntmps52
      go_wp2_with (go_at_call 40; refine C0.out.mono ?_; rintro e w' ⟨rfl, rfl⟩)
      go_region
      go_wp2
      go_end0
      exact ⟨⟨_, rfl⟩, FIN.out.keep0 (Keep.refl [] _).drew⟩
  · have hs : writeS s 4 v = s := by
      have : (s.st = 1 ∨ (v ≠ 1 ∧ v ≠ 2)) := by omega
      simp only [writeS, if_pos this]; simp
    have t2 : ((v : Int) != 1) = true := by simp; omega
    have t3 : ((v : Int) != 2) = true := by simp; omega
    rw [hs]
    go_enter Try.func52, Try.ntmps52
    go_wp2_with (go_at_call 40; refine C0.out.mono ?_; rintro e w' ⟨rfl, rfl⟩)
    refine bodyPost_ret (results_none rfl _ _ _) rfl ?_
    exact ⟨⟨_, rfl⟩, ST.out⟩

/-- The output turns. -/
theorem DvIn.toO {w x : World} {b : Nat} {s s' : DS} {q bl sc ou ou' : Value} (h : DvIn w b s q bl sc ou) (ok : s'.Ok) (hk : Keep (b :: blk ou) w x) (hx : x.heap[b]? = some (.cells (dvC s' q bl sc ou') 74 (0, 0)))
    (ho : Buf x 5 1 ou' s'.out.length (u8s s'.out)) (hb : ∀ k ∈ blk ou', k ∈ blk ou ∨ w.heap.size ≤ k) (h1 : s'.queue = s.queue) (h2 : s'.disk = s.disk) (h3 : s'.script = s.script) :
    DvTo b (b :: (blk q ++ blk bl ++ blk sc ++ blk ou)) s' w x := by
  have g := fun (j : Nat) (hj' : j < 3) (hj : j + 1 < 5) k hk (hb : k ∈ b :: blk ou) => (List.mem_cons.1 hb).elim (fun e => h.nodup.get (i := j + 1) (j := 0) hj (by simp) (by omega) k hk (by simp [e])) (fun hb => h.nodup.get (i := j + 1) (j := 4) hj (by simp) (by omega) k hk hb)
  refine ⟨_, ⟨ok, q, bl, sc, ou', ⟨hx, ?_, ?_, ?_, ho, h.nodup.set w.heap.size 4 h.lt (blk ou') (by simp) hb⟩, rfl⟩, hk.weaken (fun k hk _ => ?_), fun k hk => ?_⟩
  · rw [h1]; exact h.hq.keep hk (g 0 (by omega) (by omega))
  · rw [h2]; exact h.hbl.keep hk (g 1 (by omega) (by omega))
  · rw [h3]; exact h.hsc.keep hk (g 2 (by omega) (by omega))
  · simp only [List.mem_cons, List.mem_append] at hk ⊢
    exact hk.imp id (fun h => .inr h)
  · simp only [List.mem_cons, List.mem_append] at hk ⊢
    rcases hk with hk | ((hk | hk) | hk) | hk
    · exact .inl (.inl hk)
    · exact .inl (.inr (.inl (.inl (.inl hk))))
    · exact .inl (.inr (.inl (.inl (.inr hk))))
    · exact .inl (.inr (.inl (.inr hk)))
    · exact (hb k hk).imp (fun h => .inr (.inr h)) id

theorem DvIn.b_ou {w : World} {b : Nat} {s : DS} {q bl sc ou : Value} (h : DvIn w b s q bl sc ou) : b ∉ blk ou := h.nodup.get (i := 0) (j := 4) (by simp) (by simp) (by omega) b (by simp)

set_option maxHeartbeats 2000000 in
theorem dwrite_at {w : World} {b : Nat} {F : List Nat} {s : DS} (h : DvAt w b F s) (p : Int) (v : Nat) (hv : v < 4294967296) (ho : s.out.length < 1073741824) :
    Calls Try.prog 22 #[.pointer (some ⟨b, 0, none⟩), .int .i64 p, .int .u32 (v : Nat)] w fun e w' => (∃ u, e = .returned u) ∧ DvTo b F (writeS s p v) w w' := by
  have C1 := Lib.hid (dcommand_at h v hv)
  have hOK := writeS_ok h.ok p v hv ho
  obtain ⟨ok, q, bl, sc, ou, hi, rfl⟩ := h
  have C0 := Lib.hid (dnone_no hi.made)
  have stay : DvTo b (b :: (blk q ++ blk bl ++ blk sc ++ blk ou)) s w w := ⟨_, ⟨ok, _, _, _, _, hi, rfl⟩, Keep.refl _ _, fun k hk => .inl hk⟩
  have e0 : w.cell? ⟨b, 0, none⟩ = some (.int .u32 s.bits) := cell_of hi.cs 0 rfl
  have e1 : w.cell? ⟨b, 1, none⟩ = some (.int .u32 s.mask) := cell_of hi.cs 1 rfl
  have e4 : w.cell? ⟨b, 4, none⟩ = some (.int .u32 s.bk) := cell_of hi.cs 4 rfl
  have e5 : w.cell? ⟨b, 5, none⟩ = some (.int .u32 s.ad) := cell_of hi.cs 5 rfl
  have f0 : ∀ i, w.frozen? ⟨b, i, none⟩ = false := frozen_of hi.cs
  obtain ⟨oa, oc, rfl, hq1, hq2⟩ := hi.hou.shape
  have e12 : w.cell? ⟨b, 12, none⟩ = some (.slice oa s.out.length oc) := cell_of hi.cs 12 rfl
  have hB := lt_of_heap hi.cs
  have m7 : bits .and .u32 (v : Int) 7 = ((v % 8 : Nat) : Int) := by
    have h1 := and_u32 v 7 hv (by omega)
    rw [show v &&& 7 = v % 8 from Nat.and_two_pow_sub_one_eq_mod v 3] at h1
    exact h1
  have n6 : bits .andNot .u32 (s.bits : Int) (v : Int) = ((s.bits &&& (7 - v % 8) : Nat) : Int) := andNot8 _ _ ok.bits hv
  have c8 : IntKind.u8.wrap (v : Int) = ((v % 256 : Nat) : Int) := by rw [IntKind.wrap_u8]; omega
  obtain ⟨i0, hif, hz0, hz1, hz2⟩ := info_parts info_u8b
  have ST := Lib.hid stay
  have HI := Lib.hid (And.intro ok hi)
  have OK' := Lib.hid hOK
  clear stay hOK
  by_cases p0 : p = 0
  · subst p0
    have hs : writeS s 0 v = { s with out := s.out ++ [((v % 256 : Nat) : Int)] } := rfl
    have B1 := Lib.hid (hi.hou.keep0 ((Keep.refl [] w).alloc (.cells #[.int .u8 ((v % 256 : Nat) : Int)] 5)))
    have hne := hi.b_ou
    clear hi ok
    generalize hz : ((v % 256 : Nat) : Int) = z at *
    go_enter Try.func22, Try.ntmps22
    go_wp2_with (first | (go_at_call 37; refine C0.out.mono ?_; rintro e w' ⟨rfl, rfl⟩) | (at_builtin; go_loud (refine wpList_append_buf rfl _ _ 22 rfl 5 1 i0 (.int .u8 0) 1 Try.underlying22 hif hz0 hz1 hz2 (.slice oa s.out.length oc) _ _ rfl B1.out _ 1 [.int .u8 z] rfl (Src.ofSlice _ Try.underlying22 ⟨_, 0, none⟩ 1 1 [.int .u8 z] rfl (World.news_of_block (cs := #[.int .u8 z]) (heap_alloc_at _ (by simp))) (by simp [Value.oneCell'])) rfl (by unfold maxLen; omega) (by omega) ?_); intro v' w1 hb1 hk1 hs1; obtain ⟨va, vc, rfl, _, _⟩ := hb1.shape; have h1 := hk1.heap (heap_alloc_other _ HI.out.2.cs) hne; have z1 := frozen_of h1 12; have c1 : w1.cell? ⟨b, 12, none⟩ = some (.slice oa s.out.length oc) := cell_of h1 12 rfl; have H1 := Lib.hid (And.intro h1 (And.intro hb1 (And.intro hk1 hs1))); clear h1 hb1 hk1 hs1))
    go_end0
    obtain ⟨h1, hb1, hk1, hs1⟩ := H1.out
    have hi := HI.out.2
    have kA : Keep (b :: blk (.slice oa s.out.length oc)) w' w1 := ((Keep.refl _ _).alloc _).trans (hk1.weaken (fun k hk _ => by simp [hk]))
    have kB := kA.setCell (p := ⟨b, 12, none⟩) (.inl (by simp)) (.slice va (s.out.length + 1) vc)
    have hs2 : ∀ k ∈ blk (.slice va (s.out.length + 1) vc), k ∈ blk (.slice oa s.out.length oc) ∨ w'.heap.size ≤ k := fun k hk => (hs1 k hk).imp id (fun h => by simp at h; omega)
    rw [hs]
    have OK2 := OK'.out
    rw [hs] at OK2
    refine ⟨⟨_, rfl⟩, hi.toO OK2 kB (heap_set_same h1 12 _) ?_ hs2 rfl rfl rfl⟩
    rw [u8s_append, List.length_append]
    refine Buf.keep hb1 ((Keep.refl [b] _).setCell (.inl (by simp)) _) (fun k hk hb => ?_)
    simp at hb
    subst hb
    rcases hs2 k hk with h2 | h2
    · exact hne h2
    · omega
  have p0' : (p == 0) = false := by simp [p0]
  have one : ∀ (i : Nat) (u : Value) (s' : DS), s'.Ok → dvC s' q bl sc (.slice oa s.out.length oc) = (dvC s q bl sc (.slice oa s.out.length oc)).setIfInBounds i u → s'.queue = s.queue → s'.disk = s.disk → s'.script = s.script → s'.out = s.out →
      DvTo b (b :: (blk q ++ blk bl ++ blk sc ++ blk (.slice oa s.out.length oc))) s' w (w.setCell ⟨b, i, none⟩ u) := fun i u s' hok hd h1 h2 h3 h4 =>
    hi.to hok ((Keep.refl _ _).setCell (.inl (by simp)) _) (by rw [heap_set_same hi.cs i u, hd]) h1 h2 h3 h4
  have ONE := Lib.hid one
  clear hi ok one
  by_cases p2 : p = 2
  · subst p2
    go_enter Try.func22, Try.ntmps22
    go_wp2_with (go_at_call 37; refine C0.out.mono ?_; rintro e w' ⟨rfl, rfl⟩)
    go_end0
    exact ⟨⟨_, rfl⟩, ONE.out 4 _ (writeS s 2 v) OK'.out rfl rfl rfl rfl rfl⟩
  by_cases p3 : p = 3
  · subst p3
    go_enter Try.func22, Try.ntmps22
    go_wp2_with (go_at_call 37; refine C0.out.mono ?_; rintro e w' ⟨rfl, rfl⟩)
    go_end0
    exact ⟨⟨_, rfl⟩, ONE.out 5 _ (writeS s 3 v) OK'.out rfl rfl rfl rfl rfl⟩
  by_cases p4 : p = 4
  · subst p4
    go_enter Try.func22, Try.ntmps22
    go_wp2_with (first | (go_at_call 37; refine C0.out.mono ?_; rintro e w' ⟨rfl, rfl⟩) | (go_at_call 52; refine C1.out.mono ?_; rintro e w1 ⟨⟨u, rfl⟩, hd⟩; have HD := Lib.hid hd; clear hd))
    go_end0
    exact ⟨⟨_, rfl⟩, HD.out⟩
  by_cases p5 : p = 5
  · subst p5
    go_enter Try.func22, Try.ntmps22
    go_wp2_with (go_at_call 37; refine C0.out.mono ?_; rintro e w' ⟨rfl, rfl⟩)
    go_end0
    exact ⟨⟨_, rfl⟩, ONE.out 1 _ (writeS s 5 v) OK'.out rfl rfl rfl rfl rfl⟩
  by_cases p6 : p = 6
  · subst p6
    go_enter Try.func22, Try.ntmps22
    go_wp2_with (go_at_call 37; refine C0.out.mono ?_; rintro e w' ⟨rfl, rfl⟩)
    go_end0
    exact ⟨⟨_, rfl⟩, ONE.out 0 _ (writeS s 6 v) OK'.out rfl rfl rfl rfl rfl⟩
  have hs : writeS s p v = s := by simp [writeS, p0, p2, p3, p4, p5, p6]
  have p2' : (p == 2) = false := by simp [p2]
  have p3' : (p == 3) = false := by simp [p3]
  have p4' : (p == 4) = false := by simp [p4]
  have p5' : (p == 5) = false := by simp [p5]
  have p6' : (p == 6) = false := by simp [p6]
  rw [hs]
  go_enter Try.func22, Try.ntmps22
  go_wp2_with (go_at_call 37; refine C0.out.mono ?_; rintro e w' ⟨rfl, rfl⟩)
  go_end0
  exact ⟨⟨_, rfl⟩, ST.out⟩

end Go.Proofs.Ytgeakpeaohggoaa

/- Arguments as they come in: bytes, pairs of numbers. -/
namespace Go.Proofs.Ytgeakpeaohggoaa
open Go.RowKit Go.Mum
set_option maxRecDepth 100000

/-- A slice of bytes that came in, as a list. -/
theorem row_of_fits {w : World} {B n : Nat} {a : Option Addr} {len cap : Nat} (h : Fits Try.prog w B n 22 [.slice a len cap]) : ∃ L : List Int, len = L.length ∧ Row w a cap L ∧ (len ≤ B ∨ len = 0) := by
  rcases h.slice Try.underlying22 with ⟨rfl, rfl, rfl⟩ | ⟨b, m, rfl, h1, h2, h3, h4⟩
  · exact ⟨[], rfl, Row.nil w, .inr rfl⟩
  · rcases h.ints Try.underlying22 Try.underlying5 (by kernel_rfl) with rfl | ⟨b', off, e, h0, h1', h2', h3', h4', z, hz⟩
    · exact ⟨[], rfl, ⟨(by intro x hx; cases hx), ⟨h1, h2⟩, .inr (.inl ⟨rfl, _, rfl⟩)⟩, .inr rfl⟩
    · cases e
      refine ⟨(List.range len).map z, by simp, ⟨?_, ⟨by simp; exact h1, h2⟩, .inr (.inr ⟨b', off, rfl, ?_⟩)⟩, .inl h3⟩
      · intro x hx
        obtain ⟨i, hi, rfl⟩ := List.mem_map.1 hx
        have := wf_u8 (hz i (List.mem_range.1 hi)).2
        omega
      · intro i hi
        simp at hi
        rw [(hz i hi).1]
        simp [List.getD, hi]

theorem row_old {w : World} {a : Option Addr} {c : Nat} {L : List Int} (h : Row w a c L) {g : Nat} (hg : w.heap.size ≤ g) : L = [] ∨ ∀ b, a = some b → b.block ≠ g := by
  rcases h.at' with ⟨_, h, _⟩ | ⟨h, _⟩ | ⟨b, off, rfl, hc⟩
  · exact .inl h
  · exact .inl h
  · by_cases h0 : L = []
    · exact .inl h0
    · right
      have := World.block_lt_of_cell? w _ (hc 0 (List.length_pos_iff.2 h0))
      simp only [Option.some.injEq, forall_eq']
      simp at this
      omega

end Go.Proofs.Ytgeakpeaohggoaa
