/- The law DevLoads, walked. -/
import Derived.Deep.DeepCutAuto
import Derived.Test.YtgeakpeaohggoaaM15
import Derived.Test.YtgeakpeaohggoaaM09
namespace Go.Proofs.Ytgeakpeaohggoaa
open Go.RowKit Go.Mum
set_option linter.unusedVariables false
set_option linter.unusedSimpArgs false
set_option maxRecDepth 100000

theorem fits_slice_shape {P : Program} {w : World} {B n : Nat} {t e : TypeId} {cs : List Value} (h : Fits P w B n t cs) (ht : P.underlying t = some (.slice e)) : ∃ a len cap, cs = [.slice a len cap] := by
  cases n with
  | zero => exact h.elim
  | succ n =>
    unfold Fits at h
    rw [ht] at h
    rcases h with h | ⟨a, len, cap, h, _⟩
    · exact ⟨_, _, _, h⟩
    · exact ⟨_, _, _, h⟩

theorem at_of_take {A : Array Value} {i : Nat} {v : Value} (h : (A.toList.drop i).take 1 = [v]) : A[i]? = some v := by
  have h1 : ((A.toList.drop i).take 1)[0]? = some v := by rw [h]; rfl
  rw [List.getElem?_take_of_lt (by omega), List.getElem?_drop] at h1
  simpa using h1

theorem u32_of_take {A : Array Value} {w : World} {B n i : Nat} (h : Fits Try.prog w B n 33 ((A.toList.drop i).take 1)) : ∃ z : Nat, A[i]? = some (.int .u32 z) ∧ z < 4294967296 := by
  obtain ⟨z, e, g⟩ := h.int Try.underlying33
  have := wf_u32 g
  refine ⟨z.toNat, ?_, by omega⟩
  rw [at_of_take e, Int.toNat_of_nonneg this.1]

theorem bytes_of_take {A : Array Value} {w : World} {B n i : Nat} (h : Fits Try.prog w B n 22 ((A.toList.drop i).take 1)) : ∃ (a : Option Addr) (c : Nat) (D : List Int), A[i]? = some (.slice a D.length c) ∧ Row w a c D ∧ (D.length ≤ B ∨ D.length = 0) := by
  obtain ⟨a, len, cap, e⟩ := fits_slice_shape h Try.underlying22
  rw [e] at h
  obtain ⟨D, rfl, hr, hb⟩ := row_of_fits h
  exact ⟨a, cap, D, at_of_take e, hr, hb⟩

/-- What was saved, as it came in. -/
theorem sv_of_fits {w : World} {B n : Nat} {A : Array Value} (h : Fits Try.prog w B n 47 A.toList) :
    ∃ (s : DS) (oa da qa sa : Option Addr) (oc dc qc scc : Nat), SvR w A s oa da qa sa oc dc qc scc s.kd s.fr s.to ∧ (∀ e ∈ s.script, e.Ok) ∧ s.out.length ≤ B ∧ s.bits < 4294967296 ∧ s.mask < 4294967296 ∧ s.bk < 4294967296 ∧ s.ad < 4294967296 ∧ s.st < 4294967296 ∧ s.kd < 4294967296 ∧ s.fr < 4294967296 ∧ s.to < 4294967296 := by
  obtain ⟨m, hl, hf⟩ := h.struct Try.underlying47
  have q1 : Try.prog.cellsOf 33 = 1 := by kernel_rfl
  have q2 : Try.prog.cellsOf 22 = 1 := by kernel_rfl
  have q3 : Try.prog.cellsOf 23 = 1 := by kernel_rfl
  have qs : Try.prog.cellsOf 47 = 35 := by kernel_rfl
  simp only [Array.length_toList, qs] at hl
  have f5 := hf _ (.tail _ (.tail _ (.tail _ (.tail _ (.tail _ (.head _))))))
  have f6 := hf _ (.tail _ (.tail _ (.tail _ (.tail _ (.tail _ (.tail _ (.head _)))))))
  have f7 := hf _ (.tail _ (.tail _ (.tail _ (.tail _ (.tail _ (.tail _ (.tail _ (.head _))))))))
  have f8 := hf _ (.tail _ (.tail _ (.tail _ (.tail _ (.tail _ (.tail _ (.tail _ (.tail _ (.head _)))))))))
  have f9 := hf _ (.tail _ (.tail _ (.tail _ (.tail _ (.tail _ (.tail _ (.tail _ (.tail _ (.tail _ (.head _))))))))))
  have f10 := hf _ (.tail _ (.tail _ (.tail _ (.tail _ (.tail _ (.tail _ (.tail _ (.tail _ (.tail _ (.tail _ (.head _)))))))))))
  have f11 := hf _ (.tail _ (.tail _ (.tail _ (.tail _ (.tail _ (.tail _ (.tail _ (.tail _ (.tail _ (.tail _ (.tail _ (.head _))))))))))))
  have f12 := hf _ (.tail _ (.tail _ (.tail _ (.tail _ (.tail _ (.tail _ (.tail _ (.tail _ (.tail _ (.tail _ (.tail _ (.tail _ (.head _)))))))))))))
  have f13 := hf _ (.tail _ (.tail _ (.tail _ (.tail _ (.tail _ (.tail _ (.tail _ (.tail _ (.tail _ (.tail _ (.tail _ (.tail _ (.tail _ (.head _))))))))))))))
  have f14 := hf _ (.tail _ (.tail _ (.tail _ (.tail _ (.tail _ (.tail _ (.tail _ (.tail _ (.tail _ (.tail _ (.tail _ (.tail _ (.tail _ (.tail _ (.head _)))))))))))))))
  have f15 := hf _ (.tail _ (.tail _ (.tail _ (.tail _ (.tail _ (.tail _ (.tail _ (.tail _ (.tail _ (.tail _ (.tail _ (.tail _ (.tail _ (.tail _ (.tail _ (.head _))))))))))))))))
  have f16 := hf _ (.tail _ (.tail _ (.tail _ (.tail _ (.tail _ (.tail _ (.tail _ (.tail _ (.tail _ (.tail _ (.tail _ (.tail _ (.tail _ (.tail _ (.tail _ (.tail _ (.head _)))))))))))))))))
  simp only [q2] at f5 f6 f7
  simp only [q3] at f8
  simp only [q1] at f9 f10 f11 f12 f13 f14 f15 f16
  obtain ⟨oa, oc, O, e5, r5, b5⟩ := bytes_of_take f5
  obtain ⟨da, dc, D, e6, r6, b6⟩ := bytes_of_take f6
  obtain ⟨qa, qc, Q, e7, r7, b7⟩ := bytes_of_take f7
  obtain ⟨sa, sl, scc, e8⟩ := fits_slice_shape f8 Try.underlying23
  rw [e8] at f8
  obtain ⟨L, rfl, r8, hok⟩ := evs_of_fits f8
  obtain ⟨z9, e9, l9⟩ := u32_of_take f9
  obtain ⟨z10, e10, l10⟩ := u32_of_take f10
  obtain ⟨z11, e11, l11⟩ := u32_of_take f11
  obtain ⟨z12, e12, l12⟩ := u32_of_take f12
  obtain ⟨z13, e13, l13⟩ := u32_of_take f13
  obtain ⟨z14, e14, l14⟩ := u32_of_take f14
  obtain ⟨z15, e15, l15⟩ := u32_of_take f15
  obtain ⟨z16, e16, l16⟩ := u32_of_take f16
  exact ⟨⟨z9, z10, Q, D, z11, z12, z13, z14, z15, z16, L, O⟩, oa, da, qa, sa, oc, dc, qc, scc,
    ⟨⟨hl, e5, e6, e7, at_of_take e8, e9, e10, e11, e12, e13, e14, e15, e16⟩, r5, r6, r7, r8⟩, hok, by show O.length ≤ B; omega, l9, l10, l11, l12, l13, l14, l15, l16⟩

def busyB (st kd : Nat) : Bool := st == 1 && (kd == 1 || kd == 2)
def restB (st kd fr tz : Nat) : Bool := st != 1 && decide (st ≤ 2) && kd == 0 && fr == 0 && tz == 0

theorem ord_br (st kd fr tz : Nat) : ordS st kd fr tz = (busyB st kd || restB st kd fr tz) := by
  unfold ordS busyB restB
  by_cases h : st = 1
  · simp [h]
  · have : (st == 1) = false := by simp [h]
    have h2 : (st != 1) = true := by simp [h]
    simp [h, this, h2]

set_option maxHeartbeats 8000000 in
theorem DevLoads_walk (c0 : Array Value) (n0 : Nat) (w : World) (w0 : Fits Try.prog w 1048576 n0 47 c0.toList) :
    Calls Try.prog 5 #[.agg c0] w fun e w' => e = .returned (.bool true) ∧ Below w.heap.size w w' := by
  obtain ⟨s, oa, da, qa, sa, oc, dc, qc, scc, hR, hok, hout, l0, l1, l2, l3, l4, l5, l6, l7⟩ := sv_of_fits w0
  clear w0
  obtain ⟨n1, hn1⟩ : ∃ n, n = w.heap.size := ⟨_, rfl⟩
  have HN1 := Lib.hid hn1
  have hsz := hR.v.size
  obtain ⟨E, hE⟩ : ∃ E, E = loadErr s.script s.disk.length s.queue.length s.bits s.mask s.st s.kd s.fr s.to := ⟨_, rfl⟩
  obtain ⟨E1, hE1⟩ : ∃ E, E = errS s.script s.disk.length := ⟨_, rfl⟩
  have H := Lib.hid hR
  have LD : Hid (∀ x, Keep [] w x → E ≠ 0 → Calls Try.prog 17 #[.agg c0] x fun e w' => e = .returned (.tuple #[.pointer none, .int .i64 (E : Nat)]) ∧ Keep [] x w') := Lib.hid (fun x hk hne => by
    have h := hR.keep0 hk
    rw [hE] at hne ⊢
    exact load_no h.v h.hD h.hL hok l0 l1 hne)
  have FE : Hid (∀ x, Keep [] w x → Calls Try.prog 18 #[.slice sa s.script.length scc, .slice da s.disk.length dc] x fun e w' => e = .returned (.int .i64 (E1 : Nat)) ∧ Keep [] x w') := Lib.hid (fun x hk => by
    rw [hE1]; exact ferr_at (hR.keep0 hk).hL)
  have hh : (w.alloc (.cells c0 47)).heap[w.heap.size]? = some (.cells c0 47 (0, 0)) := heap_alloc_at _ rfl
  have hA1 := range_row hh
  have kA : Keep [] w (w.alloc (.cells c0 47)) := (Keep.refl _ _).alloc _
  have HS := Lib.hid (And.intro hok (And.intro l0 (And.intro l1 (And.intro l2 (And.intro l3 (And.intro l4 (And.intro l5 (And.intro l6 (And.intro l7 hout)))))))))
  have HE := Lib.hid (And.intro hE hE1)
  clear hR hok hout l0 l1 l2 l3 l4 l5 l6 l7 hE hE1 hn1
  have HBR := Lib.hid (ord_br s.st s.kd s.fr s.to)
  by_cases hE0 : E = 0
  · have hz : E1 = 0 ∧ ¬ 32 < s.queue.length ∧ s.bits < 8 ∧ s.mask < 8 ∧ ordS s.st s.kd s.fr s.to = true := by
      have h1 := HE.out.1
      rw [hE0] at h1
      unfold loadErr at h1
      by_cases a1 : errS s.script s.disk.length = 0
      · rw [if_neg (by simp [a1])] at h1
        by_cases a2 : 32 < s.queue.length
        · rw [if_pos a2] at h1; cases h1
        · rw [if_neg a2] at h1
          split at h1
          · rename_i h; exact ⟨by rw [HE.out.2, a1], a2, h⟩
          · cases h1
      · rw [if_pos a1] at h1; exact absurd h1.symm a1
    obtain ⟨hE1, hQ, hb, hm, hord⟩ := hz
    obtain ⟨g1, g2, g3, g4⟩ := errS_zero (HE.out.2.symm.trans hE1)
    have hst : s.st ≤ 2 ∧ s.kd ≤ 2 ∧ (if s.st = 1 then s.kd else 0) = s.kd ∧ (if s.st = 1 then s.fr else 0) = s.fr ∧ (if s.st = 1 then s.to else 0) = s.to := by
      unfold ordS at hord
      by_cases h1 : s.st = 1
      · rw [if_pos h1] at hord
        simp only [Bool.or_eq_true, beq_iff_eq] at hord
        refine ⟨by omega, by omega, by rw [if_pos h1], by rw [if_pos h1], by rw [if_pos h1]⟩
      · rw [if_neg h1] at hord
        simp only [Bool.and_eq_true, decide_eq_true_eq, beq_iff_eq] at hord
        refine ⟨by omega, by omega, by rw [if_neg h1]; omega, by rw [if_neg h1]; omega, by rw [if_neg h1]; omega⟩
    have ok : s.Ok := ⟨hb, hm, ⟨H.out.hQ.bytes, by omega⟩, ⟨H.out.hD.bytes, g2, g4⟩, HS.out.2.2.2.1, HS.out.2.2.2.2.1, hst.1, hst.2.1, HS.out.2.2.2.2.2.2.2.1, HS.out.2.2.2.2.2.2.2.2.1, ⟨fun e he => ⟨(mayB_iff e).1 (g3 e he), HS.out.1 e he⟩, g1⟩, ⟨H.out.hO.bytes, by have := HS.out.2.2.2.2.2.2.2.2.2; omega⟩⟩
    have OKS := Lib.hid ok
    have OS := Lib.hid hst.2.2
    have ORD := Lib.hid hord
    have LK : Hid (∀ x, Keep [] w x → Calls Try.prog 17 #[.agg c0] x fun e w' => ∃ b F, e = .returned (.tuple #[.pointer (some ⟨b, 0, none⟩), .int .i64 0]) ∧ DvAt w' b F s ∧ Keep [] x w' ∧ ∀ k ∈ F, x.heap.size ≤ k) := Lib.hid (fun x hk => by
      have h := H.out.keep0 hk
      exact load_ok ok hord h.v h.hO h.hD h.hQ h.hL)
    subst hE1
    have x1 : decide ((32 : Int) < (s.queue.length : Int)) = false := decide_eq_false (by omega)
    clear hb hm hord g1 g2 g3 g4 hst ok hE0
    go_enter Try.func5, Try.ntmps5
    go_upto_region 3 with (first
      | (refine wpList_load_midG (by rfl) 47 (.tmp 1) rfl w.heap.size 0 (by rfl) _ _ hA1 Try.underlying47 rfl (by rw [Array.length_toList, hsz]; exact info_saved) ?_)
      | (go_at_call 17; refine (LK.out _ kA).mono ?_; rintro e w2 ⟨b, F, rfl, hd, hk2, hf⟩; have HD2 := Lib.hid hd; clear hd hf; have hh2 := hk2.heap hh (by simp); have HK2 := Lib.hid (kA.trans hk2); obtain ⟨-, c24, c25, c26, c27, c28, c29, c30, c31, c32, c33, c34⟩ := H.out.v.heap hh2; clear hk2)
      | (go_at_call 18; refine (FE.out _ HK2.out).mono ?_; rintro e w3 ⟨rfl, hk3⟩; have HD := Lib.hid (HD2.out.keep0 hk3); have HK3 := Lib.hid (HK2.out.trans hk3); have hh3 := hk3.heap hh2 (by simp); clear hk3))
    obtain ⟨-, d24, d25, d26, d27, d28, d29, d30, d31, d32, d33, d34⟩ := H.out.v.heap hh3
    clear c24 c25 c26 c27 c28 c29 c30 c31 c32 c33 c34
    go_upto_region 5 with fail
    go_cut [6] (fun v wx => v = .bool (busyB s.st s.kd) ∧ wx = w3)
    case first =>
      by_cases h1 : s.st = 1
      · have b_st_1 : ((s.st : Int) == 1) = true := by simp; omega
        by_cases h2 : s.kd = 1
        · have b_kd_1 : ((s.kd : Int) == 1) = true := by simp; omega
          have hv : busyB s.st s.kd = true := by simp [busyB, h1, h2]
          have HV := Lib.hid hv
          clear hv
          go_wp2_with fail
          go_meet
          exact ⟨by rw [HV.out], rfl⟩

        · have b_kd_1 : ((s.kd : Int) == 1) = false := by simp; omega
          by_cases h3 : s.kd = 2
          · have b_kd_2 : ((s.kd : Int) == 2) = true := by simp; omega
            have hv : busyB s.st s.kd = true := by simp [busyB, h1, h3]
            have HV := Lib.hid hv
            clear hv
            go_wp2_with fail
            go_meet
            exact ⟨by rw [HV.out], rfl⟩

          · have b_kd_2 : ((s.kd : Int) == 2) = false := by simp; omega
            have hv : busyB s.st s.kd = false := by simp [busyB, h1, h2, h3]
            have HV := Lib.hid hv
            clear hv
            go_wp2_with fail
            go_meet
            exact ⟨by rw [HV.out], rfl⟩



      · have b_st_1 : ((s.st : Int) == 1) = false := by simp; omega
        have hv : busyB s.st s.kd = false := by simp [busyB, h1]
        have HV := Lib.hid hv
        clear hv
        go_wp2_with fail
        go_meet
        exact ⟨by rw [HV.out], rfl⟩


    case rest =>
      obtain ⟨rfl, rfl⟩ := hcut
      go_upto_region 6 with fail
      go_cut [7] (fun v wx => v = .bool (restB s.st s.kd s.fr s.to) ∧ wx = wc)
      case first =>
        by_cases h1 : s.st = 1
        · have b_st_1 : ((s.st : Int) != 1) = false := by simp; omega
          have hv : restB s.st s.kd s.fr s.to = false := by simp [restB, h1]
          have HV := Lib.hid hv
          clear hv
          go_wp2_with fail
          go_meet
          exact ⟨by rw [HV.out], rfl⟩

        · have b_st_1 : ((s.st : Int) != 1) = true := by simp; omega
          by_cases h2 : s.st ≤ 2
          · have b_le : decide ((s.st : Int) ≤ 2) = true := decide_eq_true (by omega)
            by_cases h3 : s.kd = 0
            · have b_kd_0 : ((s.kd : Int) == 0) = true := by simp; omega
              by_cases h4 : s.fr = 0
              · have b_fr_0 : ((s.fr : Int) == 0) = true := by simp; omega
                by_cases h5 : s.to = 0
                · have b_to_0 : ((s.to : Int) == 0) = true := by simp; omega
                  have hv : restB s.st s.kd s.fr s.to = true := by simp [restB, h1, h2, h3, h4, h5]
                  have HV := Lib.hid hv
                  clear hv
                  go_wp2_with fail
                  go_meet
                  exact ⟨by rw [HV.out], rfl⟩

                · have b_to_0 : ((s.to : Int) == 0) = false := by simp; omega
                  have hv : restB s.st s.kd s.fr s.to = false := by simp [restB, h1, h2, h3, h4, h5]
                  have HV := Lib.hid hv
                  clear hv
                  go_wp2_with fail
                  go_meet
                  exact ⟨by rw [HV.out], rfl⟩


              · have b_fr_0 : ((s.fr : Int) == 0) = false := by simp; omega
                have hv : restB s.st s.kd s.fr s.to = false := by simp [restB, h1, h2, h3, h4]
                have HV := Lib.hid hv
                clear hv
                go_wp2_with fail
                go_meet
                exact ⟨by rw [HV.out], rfl⟩


            · have b_kd_0 : ((s.kd : Int) == 0) = false := by simp; omega
              have hv : restB s.st s.kd s.fr s.to = false := by simp [restB, h1, h2, h3]
              have HV := Lib.hid hv
              clear hv
              go_wp2_with fail
              go_meet
              exact ⟨by rw [HV.out], rfl⟩


          · have b_le : decide ((s.st : Int) ≤ 2) = false := decide_eq_false (by omega)
            have hv : restB s.st s.kd s.fr s.to = false := by simp [restB, h1, h2]
            have HV := Lib.hid hv
            clear hv
            go_wp2_with fail
            go_meet
            exact ⟨by rw [HV.out], rfl⟩



      case rest =>
        obtain ⟨rfl, rfl⟩ := hcut
        generalize busyB s.st s.kd = bB at HBR ⊢
        generalize restB s.st s.kd s.fr s.to = rB at HBR ⊢
        have z1 : decide ((7 : Int) < (s.bits : Int)) = false := decide_eq_false (by have := OKS.out.bits; omega)
        have z1' : ¬ 7 < s.bits := by have := OKS.out.bits; omega
        have z2 : decide ((7 : Int) < (s.mask : Int)) = false := decide_eq_false (by have := OKS.out.mask; omega)
        have z2' : ¬ 7 < s.mask := by have := OKS.out.mask; omega
        have ho : (bB || rB) = true := by rw [← HBR.out]; exact ORD.out
        cases bB
        · cases rB
          · cases ho
          · clear ho
            go_wp2_with fail
            refine wp_region_held_drew (S := fun z => z.rangeAt w.heap.size 0 c0.toList) (by kernel_rfl) (range_row hh3) (fun hHeld => ?_)
            have hD0 := HD.out.keep0 ((Keep.refl [] _).drew)
            have hK0 := HK3.out.trans ((Keep.refl [] _).drew)
            generalize World.drew _ = z0 at hHeld hD0 hK0 ⊢
            skip
            refine wpAnyH_take (i := 0) (oi := { dst := some 94, op := Op.move (Operand.tmp 4), type := 27, pos := "outright.go:152", after := #[], guard := none }) (v := ?_) rfl (by kernel_rfl) (by kernel_rfl) (by kernel_rfl) (fun _ _ _ h => h) (Or.inl ⟨by rfl, ?_⟩) (by assumption) ?_
            rotate_left
            focus (intro w hSw; (try dsimp only at hSw); go_simp <;> with_reducible rfl)
            try simp only [Act.put, List.setIfInBounds_toArray, List.set_cons_zero, List.set_cons_succ]
            refine wpAnyH_take (i := 1) (oi := { dst := some 95, op := Op.binOp BinOp.eql 27 (Operand.tmp 94) (Operand.const (Value.int IntKind.i64 0)) 27, type := 4, pos := "outright.go:152", after := #[{ on := 0, ground := Ground.data }], guard := none }) (v := ?_) rfl (by kernel_rfl) (by kernel_rfl) (by kernel_rfl) (fun _ _ _ h => h) (Or.inl ⟨by rfl, ?_⟩) (by assumption) ?_
            rotate_left
            focus (intro w hSw; (try dsimp only at hSw); go_simp <;> with_reducible rfl)
            try simp only [Act.put, List.setIfInBounds_toArray, List.set_cons_zero, List.set_cons_succ]
            refine wpAnyH_take (i := 2) (oi := { dst := some 96, op := Op.move (Operand.tmp 95), type := 4, pos := "outright.go:152", after := #[{ on := 1, ground := Ground.data }], guard := none }) (v := ?_) rfl (by kernel_rfl) (by kernel_rfl) (by kernel_rfl) (fun _ _ _ h => h) (Or.inl ⟨by rfl, ?_⟩) (by assumption) ?_
            rotate_left
            focus (intro w hSw; (try dsimp only at hSw); go_simp <;> with_reducible rfl)
            try simp only [Act.put, List.setIfInBounds_toArray, List.set_cons_zero, List.set_cons_succ]
            refine wpAnyH_take (i := 3) (oi := { dst := some 97, op := Op.move (Operand.tmp 3), type := 26, pos := "outright.go:152", after := #[{ on := 2, ground := Ground.guard }], guard := some (2, true) }) (v := ?_) rfl (by kernel_rfl) (by kernel_rfl) (by kernel_rfl) (fun _ _ _ h => h) (Or.inl ⟨by rfl, ?_⟩) (by assumption) ?_
            rotate_left
            focus (intro w hSw; (try dsimp only at hSw); go_simp <;> with_reducible rfl)
            try simp only [Act.put, List.setIfInBounds_toArray, List.set_cons_zero, List.set_cons_succ]
            refine wpAnyH_take (i := 5) (oi := { dst := some 99, op := Op.load 47 (Operand.tmp 1), type := 47, pos := "outright.go:152", after := #[{ on := 2, ground := Ground.guard }], guard := some (2, true) }) (v := _) rfl (by kernel_rfl) (by kernel_rfl) (by kernel_rfl) (fun _ _ _ h => h) (yieldsIf_load_mid (by rfl) 47 (.tmp 1) rfl w.heap.size 0 rfl c0.toList _ (fun _ h => h) Try.underlying47 rfl (by rw [Array.length_toList, hsz]; exact info_saved)) (by assumption) ?_
            try simp only [Act.put, List.setIfInBounds_toArray, List.set_cons_zero, List.set_cons_succ]
            refine wpAnyH_ready (rs := [4]) (by kernel_rfl) (by simp) ?_
            refine AllReadyH.cons (o := { dst := some 98, op := Op.call { callee := Callee.value (Operand.func 20), args := #[Operand.tmp 97], argTypes := #[26] }, type := 47, pos := "outright.go:152", after := #[{ on := 3, ground := Ground.data }, { on := 2, ground := Ground.chain }, { on := 2, ground := Ground.guard }], guard := some (2, true) }) rfl (fun K hK => ?_) AllReadyH.nil
            go_simp
            refine (dsave_at hD0).mono ?_
            rintro e z1 ⟨A, va, vc, v2, vc2, v3, vc3, v4, vc4, rfl, hv, ro, rd, rq, rl, hkz⟩
            rw [OS.out.1, OS.out.2.1, OS.out.2.2] at hv
            have hSv : SvR z1 A s va v2 v3 v4 vc vc2 vc3 vc4 s.kd s.fr s.to := ⟨hv, ro, rd, rq, rl⟩
            have hSc := H.out.keep0 (hK0.trans hkz)
            have HS1 := Lib.hid (And.intro hSv (And.intro hSc (hK0.trans hkz)))
            have hHeld1 := rangeAt_keep hHeld hkz (by simp)
            clear hSv hSc hv ro rd rq rl hHeld hD0 hK0 hkz
            go_wp2_with fail
            refine shut_grow _ hK (fun _ h => h) hHeld1 (fun hHeld1 => ?_)
            clear hK K
            skip
            refine wpAnyH_ready (rs := [6]) (by kernel_rfl) (by simp) ?_
            refine AllReadyH.cons (o := { dst := some 100, op := Op.call { callee := Callee.value (Operand.func 19), args := #[Operand.tmp 98, Operand.tmp 99], argTypes := #[47, 47] }, type := 4, pos := "outright.go:152", after := #[{ on := 4, ground := Ground.data }, { on := 5, ground := Ground.data }, { on := 4, ground := Ground.chain }, { on := 2, ground := Ground.guard }], guard := some (2, true) }) rfl (fun K hK => ?_) AllReadyH.nil
            go_simp
            refine (saved_yes HS1.out.1 HS1.out.2.1 OKS.out.script.2).mono ?_
            rintro e z2 ⟨rfl, hkz⟩
            have hHeld2 := rangeAt_keep hHeld1 hkz (by simp)
            have HS2 := Lib.hid (HS1.out.2.2.trans hkz)
            clear hHeld1 hkz
            go_wp2_with fail
            refine shut_grow _ hK (fun _ h => h) hHeld2 (fun hHeld2 => ?_)
            clear hK K
            refine wpAnyH_take (i := 7) (oi := { dst := some 101, op := Op.pick (Operand.tmp 96) (Operand.tmp 100) (Operand.const (Value.bool false)), type := 4, pos := "outright.go:152", after := #[{ on := 2, ground := Ground.data }, { on := 6, ground := Ground.data }], guard := none }) (v := ?_) rfl (by kernel_rfl) (by kernel_rfl) (by kernel_rfl) (fun _ _ _ h => h) (Or.inl ⟨by rfl, ?_⟩) (by assumption) ?_
            rotate_left
            focus (intro w hSw; (try dsimp only at hSw); go_simp <;> with_reducible rfl)
            try simp only [Act.put, List.setIfInBounds_toArray, List.set_cons_zero, List.set_cons_succ]
            refine wpAnyH_take (i := 8) (oi := { dst := some 102, op := Op.move (Operand.tmp 101), type := 4, pos := "outright.go:152", after := #[{ on := 7, ground := Ground.data }, { on := 6, ground := Ground.chain }], guard := none }) (v := ?_) rfl (by kernel_rfl) (by kernel_rfl) (by kernel_rfl) (fun _ _ _ h => h) (Or.inl ⟨by rfl, ?_⟩) (by assumption) ?_
            rotate_left
            focus (intro w hSw; (try dsimp only at hSw); go_simp <;> with_reducible rfl)
            try simp only [Act.put, List.setIfInBounds_toArray, List.set_cons_zero, List.set_cons_succ]
            refine wpAnyH_ready (rs := [9]) (by kernel_rfl) (by simp) ?_
            refine AllReadyH.cons (o := { dst := some 103, op := Op.call { callee := Callee.value (Operand.func 15), args := #[], argTypes := #[] }, type := 4, pos := "outright.go:152", after := #[{ on := 8, ground := Ground.chain }, { on := 8, ground := Ground.guard }], guard := some (8, true) }) rfl (fun K hK => ?_) AllReadyH.nil
            go_simp
            refine (works_at _).mono ?_
            rintro e z3 ⟨rfl, hkz⟩
            have hHeld3 := rangeAt_keep hHeld2 hkz (by simp)
            have HS3 := Lib.hid (HS2.out.trans hkz)
            clear hHeld2 hkz
            go_wp2_with fail
            refine shut_grow _ hK (fun _ h => h) hHeld3 (fun hHeld3 => ?_)
            clear hK K hHeld3
            refine wpAnyH_take (i := 10) (oi := { dst := some 104, op := Op.pick (Operand.tmp 102) (Operand.tmp 103) (Operand.const (Value.bool false)), type := 4, pos := "outright.go:152", after := #[{ on := 8, ground := Ground.data }, { on := 9, ground := Ground.data }], guard := none }) (v := ?_) rfl (by kernel_rfl) (by kernel_rfl) (by kernel_rfl) (fun _ _ _ h => h) (Or.inl ⟨by rfl, ?_⟩) (by assumption) ?_
            rotate_left
            focus (intro w hSw; (try dsimp only at hSw); go_simp <;> with_reducible rfl)
            try simp only [Act.put, List.setIfInBounds_toArray, List.set_cons_zero, List.set_cons_succ]
            refine wpAnyH_take (i := 11) (oi := { dst := some 2, op := Op.assign (Operand.tmp 104), type := 4, pos := "outright.go:152", after := #[{ on := 10, ground := Ground.data }, { on := 9, ground := Ground.chain }, { on := 0, ground := Ground.phase }, { on := 1, ground := Ground.phase }, { on := 2, ground := Ground.phase }, { on := 3, ground := Ground.phase }, { on := 4, ground := Ground.phase }, { on := 5, ground := Ground.phase }, { on := 6, ground := Ground.phase }, { on := 7, ground := Ground.phase }, { on := 8, ground := Ground.phase }, { on := 9, ground := Ground.phase }, { on := 10, ground := Ground.phase }], guard := none }) (v := ?_) rfl (by kernel_rfl) (by kernel_rfl) (by kernel_rfl) (fun _ _ _ h => h) (Or.inl ⟨by rfl, ?_⟩) (by assumption) ?_
            rotate_left
            focus (intro w hSw; (try dsimp only at hSw); go_simp <;> with_reducible rfl)
            try simp only [Act.put, List.setIfInBounds_toArray, List.set_cons_zero, List.set_cons_succ]
            refine wpAnyH_done (by kernel_rfl) ?_ _
            go_wp2_with fail
            go_ret
            exact ⟨rfl, HS3.out.below (Nat.le_refl _) (by simp)⟩

        · clear ho
          cases rB
          all_goals
            go_wp2_with fail
            refine wp_region_held_drew (S := fun z => z.rangeAt w.heap.size 0 c0.toList) (by kernel_rfl) (range_row hh3) (fun hHeld => ?_)
            have hD0 := HD.out.keep0 ((Keep.refl [] _).drew)
            have hK0 := HK3.out.trans ((Keep.refl [] _).drew)
            generalize World.drew _ = z0 at hHeld hD0 hK0 ⊢
            skip
            refine wpAnyH_take (i := 0) (oi := { dst := some 94, op := Op.move (Operand.tmp 4), type := 27, pos := "outright.go:152", after := #[], guard := none }) (v := ?_) rfl (by kernel_rfl) (by kernel_rfl) (by kernel_rfl) (fun _ _ _ h => h) (Or.inl ⟨by rfl, ?_⟩) (by assumption) ?_
            rotate_left
            focus (intro w hSw; (try dsimp only at hSw); go_simp <;> with_reducible rfl)
            try simp only [Act.put, List.setIfInBounds_toArray, List.set_cons_zero, List.set_cons_succ]
            refine wpAnyH_take (i := 1) (oi := { dst := some 95, op := Op.binOp BinOp.eql 27 (Operand.tmp 94) (Operand.const (Value.int IntKind.i64 0)) 27, type := 4, pos := "outright.go:152", after := #[{ on := 0, ground := Ground.data }], guard := none }) (v := ?_) rfl (by kernel_rfl) (by kernel_rfl) (by kernel_rfl) (fun _ _ _ h => h) (Or.inl ⟨by rfl, ?_⟩) (by assumption) ?_
            rotate_left
            focus (intro w hSw; (try dsimp only at hSw); go_simp <;> with_reducible rfl)
            try simp only [Act.put, List.setIfInBounds_toArray, List.set_cons_zero, List.set_cons_succ]
            refine wpAnyH_take (i := 2) (oi := { dst := some 96, op := Op.move (Operand.tmp 95), type := 4, pos := "outright.go:152", after := #[{ on := 1, ground := Ground.data }], guard := none }) (v := ?_) rfl (by kernel_rfl) (by kernel_rfl) (by kernel_rfl) (fun _ _ _ h => h) (Or.inl ⟨by rfl, ?_⟩) (by assumption) ?_
            rotate_left
            focus (intro w hSw; (try dsimp only at hSw); go_simp <;> with_reducible rfl)
            try simp only [Act.put, List.setIfInBounds_toArray, List.set_cons_zero, List.set_cons_succ]
            refine wpAnyH_take (i := 3) (oi := { dst := some 97, op := Op.move (Operand.tmp 3), type := 26, pos := "outright.go:152", after := #[{ on := 2, ground := Ground.guard }], guard := some (2, true) }) (v := ?_) rfl (by kernel_rfl) (by kernel_rfl) (by kernel_rfl) (fun _ _ _ h => h) (Or.inl ⟨by rfl, ?_⟩) (by assumption) ?_
            rotate_left
            focus (intro w hSw; (try dsimp only at hSw); go_simp <;> with_reducible rfl)
            try simp only [Act.put, List.setIfInBounds_toArray, List.set_cons_zero, List.set_cons_succ]
            refine wpAnyH_take (i := 5) (oi := { dst := some 99, op := Op.load 47 (Operand.tmp 1), type := 47, pos := "outright.go:152", after := #[{ on := 2, ground := Ground.guard }], guard := some (2, true) }) (v := _) rfl (by kernel_rfl) (by kernel_rfl) (by kernel_rfl) (fun _ _ _ h => h) (yieldsIf_load_mid (by rfl) 47 (.tmp 1) rfl w.heap.size 0 rfl c0.toList _ (fun _ h => h) Try.underlying47 rfl (by rw [Array.length_toList, hsz]; exact info_saved)) (by assumption) ?_
            try simp only [Act.put, List.setIfInBounds_toArray, List.set_cons_zero, List.set_cons_succ]
            refine wpAnyH_ready (rs := [4]) (by kernel_rfl) (by simp) ?_
            refine AllReadyH.cons (o := { dst := some 98, op := Op.call { callee := Callee.value (Operand.func 20), args := #[Operand.tmp 97], argTypes := #[26] }, type := 47, pos := "outright.go:152", after := #[{ on := 3, ground := Ground.data }, { on := 2, ground := Ground.chain }, { on := 2, ground := Ground.guard }], guard := some (2, true) }) rfl (fun K hK => ?_) AllReadyH.nil
            go_simp
            refine (dsave_at hD0).mono ?_
            rintro e z1 ⟨A, va, vc, v2, vc2, v3, vc3, v4, vc4, rfl, hv, ro, rd, rq, rl, hkz⟩
            rw [OS.out.1, OS.out.2.1, OS.out.2.2] at hv
            have hSv : SvR z1 A s va v2 v3 v4 vc vc2 vc3 vc4 s.kd s.fr s.to := ⟨hv, ro, rd, rq, rl⟩
            have hSc := H.out.keep0 (hK0.trans hkz)
            have HS1 := Lib.hid (And.intro hSv (And.intro hSc (hK0.trans hkz)))
            have hHeld1 := rangeAt_keep hHeld hkz (by simp)
            clear hSv hSc hv ro rd rq rl hHeld hD0 hK0 hkz
            go_wp2_with fail
            refine shut_grow _ hK (fun _ h => h) hHeld1 (fun hHeld1 => ?_)
            clear hK K
            skip
            refine wpAnyH_ready (rs := [6]) (by kernel_rfl) (by simp) ?_
            refine AllReadyH.cons (o := { dst := some 100, op := Op.call { callee := Callee.value (Operand.func 19), args := #[Operand.tmp 98, Operand.tmp 99], argTypes := #[47, 47] }, type := 4, pos := "outright.go:152", after := #[{ on := 4, ground := Ground.data }, { on := 5, ground := Ground.data }, { on := 4, ground := Ground.chain }, { on := 2, ground := Ground.guard }], guard := some (2, true) }) rfl (fun K hK => ?_) AllReadyH.nil
            go_simp
            refine (saved_yes HS1.out.1 HS1.out.2.1 OKS.out.script.2).mono ?_
            rintro e z2 ⟨rfl, hkz⟩
            have hHeld2 := rangeAt_keep hHeld1 hkz (by simp)
            have HS2 := Lib.hid (HS1.out.2.2.trans hkz)
            clear hHeld1 hkz
            go_wp2_with fail
            refine shut_grow _ hK (fun _ h => h) hHeld2 (fun hHeld2 => ?_)
            clear hK K
            refine wpAnyH_take (i := 7) (oi := { dst := some 101, op := Op.pick (Operand.tmp 96) (Operand.tmp 100) (Operand.const (Value.bool false)), type := 4, pos := "outright.go:152", after := #[{ on := 2, ground := Ground.data }, { on := 6, ground := Ground.data }], guard := none }) (v := ?_) rfl (by kernel_rfl) (by kernel_rfl) (by kernel_rfl) (fun _ _ _ h => h) (Or.inl ⟨by rfl, ?_⟩) (by assumption) ?_
            rotate_left
            focus (intro w hSw; (try dsimp only at hSw); go_simp <;> with_reducible rfl)
            try simp only [Act.put, List.setIfInBounds_toArray, List.set_cons_zero, List.set_cons_succ]
            refine wpAnyH_take (i := 8) (oi := { dst := some 102, op := Op.move (Operand.tmp 101), type := 4, pos := "outright.go:152", after := #[{ on := 7, ground := Ground.data }, { on := 6, ground := Ground.chain }], guard := none }) (v := ?_) rfl (by kernel_rfl) (by kernel_rfl) (by kernel_rfl) (fun _ _ _ h => h) (Or.inl ⟨by rfl, ?_⟩) (by assumption) ?_
            rotate_left
            focus (intro w hSw; (try dsimp only at hSw); go_simp <;> with_reducible rfl)
            try simp only [Act.put, List.setIfInBounds_toArray, List.set_cons_zero, List.set_cons_succ]
            refine wpAnyH_ready (rs := [9]) (by kernel_rfl) (by simp) ?_
            refine AllReadyH.cons (o := { dst := some 103, op := Op.call { callee := Callee.value (Operand.func 15), args := #[], argTypes := #[] }, type := 4, pos := "outright.go:152", after := #[{ on := 8, ground := Ground.chain }, { on := 8, ground := Ground.guard }], guard := some (8, true) }) rfl (fun K hK => ?_) AllReadyH.nil
            go_simp
            refine (works_at _).mono ?_
            rintro e z3 ⟨rfl, hkz⟩
            have hHeld3 := rangeAt_keep hHeld2 hkz (by simp)
            have HS3 := Lib.hid (HS2.out.trans hkz)
            clear hHeld2 hkz
            go_wp2_with fail
            refine shut_grow _ hK (fun _ h => h) hHeld3 (fun hHeld3 => ?_)
            clear hK K hHeld3
            refine wpAnyH_take (i := 10) (oi := { dst := some 104, op := Op.pick (Operand.tmp 102) (Operand.tmp 103) (Operand.const (Value.bool false)), type := 4, pos := "outright.go:152", after := #[{ on := 8, ground := Ground.data }, { on := 9, ground := Ground.data }], guard := none }) (v := ?_) rfl (by kernel_rfl) (by kernel_rfl) (by kernel_rfl) (fun _ _ _ h => h) (Or.inl ⟨by rfl, ?_⟩) (by assumption) ?_
            rotate_left
            focus (intro w hSw; (try dsimp only at hSw); go_simp <;> with_reducible rfl)
            try simp only [Act.put, List.setIfInBounds_toArray, List.set_cons_zero, List.set_cons_succ]
            refine wpAnyH_take (i := 11) (oi := { dst := some 2, op := Op.assign (Operand.tmp 104), type := 4, pos := "outright.go:152", after := #[{ on := 10, ground := Ground.data }, { on := 9, ground := Ground.chain }, { on := 0, ground := Ground.phase }, { on := 1, ground := Ground.phase }, { on := 2, ground := Ground.phase }, { on := 3, ground := Ground.phase }, { on := 4, ground := Ground.phase }, { on := 5, ground := Ground.phase }, { on := 6, ground := Ground.phase }, { on := 7, ground := Ground.phase }, { on := 8, ground := Ground.phase }, { on := 9, ground := Ground.phase }, { on := 10, ground := Ground.phase }], guard := none }) (v := ?_) rfl (by kernel_rfl) (by kernel_rfl) (by kernel_rfl) (fun _ _ _ h => h) (Or.inl ⟨by rfl, ?_⟩) (by assumption) ?_
            rotate_left
            focus (intro w hSw; (try dsimp only at hSw); go_simp <;> with_reducible rfl)
            try simp only [Act.put, List.setIfInBounds_toArray, List.set_cons_zero, List.set_cons_succ]
            refine wpAnyH_done (by kernel_rfl) ?_ _
            go_wp2_with fail
            go_ret
            exact ⟨rfl, HS3.out.below (Nat.le_refl _) (by simp)⟩


  · by_cases hE1 : E1 = 0
    · by_cases hQ : 32 < s.queue.length
      · have hEE : E = 3 := by
          have h1 := HE.out.1
          rw [h1]; unfold loadErr; rw [if_neg (by rw [← HE.out.2]; simp [hE1]), if_pos hQ]
        subst hEE
        subst hE1
        have x1 : decide ((32 : Int) < (s.queue.length : Int)) = true := decide_eq_true (by omega)
        go_enter Try.func5, Try.ntmps5
        go_upto_region 3 with (first
          | (refine wpList_load_midG (by rfl) 47 (.tmp 1) rfl w.heap.size 0 (by rfl) _ _ hA1 Try.underlying47 rfl (by rw [Array.length_toList, hsz]; exact info_saved) ?_)
          | (go_at_call 17; refine (LD.out _ kA hE0).mono ?_; rintro e w2 ⟨rfl, hk2⟩; have hh2 := hk2.heap hh (by simp); have HK2 := Lib.hid (kA.trans hk2); obtain ⟨-, c24, c25, c26, c27, c28, c29, c30, c31, c32, c33, c34⟩ := H.out.v.heap hh2; clear hk2)
          | (go_at_call 18; refine (FE.out _ HK2.out).mono ?_; rintro e w3 ⟨rfl, hk3⟩; have HK3 := Lib.hid (HK2.out.trans hk3); have hh3 := hk3.heap hh2 (by simp); clear hk3))
        obtain ⟨-, d24, d25, d26, d27, d28, d29, d30, d31, d32, d33, d34⟩ := H.out.v.heap hh3
        clear c24 c25 c26 c27 c28 c29 c30 c31 c32 c33 c34
        go_upto_region 5 with fail
        go_cut [6] (fun v wx => v = .bool (busyB s.st s.kd) ∧ wx = w3)
        case first =>
          by_cases h1 : s.st = 1
          · have b_st_1 : ((s.st : Int) == 1) = true := by simp; omega
            by_cases h2 : s.kd = 1
            · have b_kd_1 : ((s.kd : Int) == 1) = true := by simp; omega
              have hv : busyB s.st s.kd = true := by simp [busyB, h1, h2]
              have HV := Lib.hid hv
              clear hv
              go_wp2_with fail
              go_meet
              exact ⟨by rw [HV.out], rfl⟩

            · have b_kd_1 : ((s.kd : Int) == 1) = false := by simp; omega
              by_cases h3 : s.kd = 2
              · have b_kd_2 : ((s.kd : Int) == 2) = true := by simp; omega
                have hv : busyB s.st s.kd = true := by simp [busyB, h1, h3]
                have HV := Lib.hid hv
                clear hv
                go_wp2_with fail
                go_meet
                exact ⟨by rw [HV.out], rfl⟩

              · have b_kd_2 : ((s.kd : Int) == 2) = false := by simp; omega
                have hv : busyB s.st s.kd = false := by simp [busyB, h1, h2, h3]
                have HV := Lib.hid hv
                clear hv
                go_wp2_with fail
                go_meet
                exact ⟨by rw [HV.out], rfl⟩



          · have b_st_1 : ((s.st : Int) == 1) = false := by simp; omega
            have hv : busyB s.st s.kd = false := by simp [busyB, h1]
            have HV := Lib.hid hv
            clear hv
            go_wp2_with fail
            go_meet
            exact ⟨by rw [HV.out], rfl⟩


        case rest =>
          obtain ⟨rfl, rfl⟩ := hcut
          go_upto_region 6 with fail
          go_cut [7] (fun v wx => v = .bool (restB s.st s.kd s.fr s.to) ∧ wx = wc)
          case first =>
            by_cases h1 : s.st = 1
            · have b_st_1 : ((s.st : Int) != 1) = false := by simp; omega
              have hv : restB s.st s.kd s.fr s.to = false := by simp [restB, h1]
              have HV := Lib.hid hv
              clear hv
              go_wp2_with fail
              go_meet
              exact ⟨by rw [HV.out], rfl⟩

            · have b_st_1 : ((s.st : Int) != 1) = true := by simp; omega
              by_cases h2 : s.st ≤ 2
              · have b_le : decide ((s.st : Int) ≤ 2) = true := decide_eq_true (by omega)
                by_cases h3 : s.kd = 0
                · have b_kd_0 : ((s.kd : Int) == 0) = true := by simp; omega
                  by_cases h4 : s.fr = 0
                  · have b_fr_0 : ((s.fr : Int) == 0) = true := by simp; omega
                    by_cases h5 : s.to = 0
                    · have b_to_0 : ((s.to : Int) == 0) = true := by simp; omega
                      have hv : restB s.st s.kd s.fr s.to = true := by simp [restB, h1, h2, h3, h4, h5]
                      have HV := Lib.hid hv
                      clear hv
                      go_wp2_with fail
                      go_meet
                      exact ⟨by rw [HV.out], rfl⟩

                    · have b_to_0 : ((s.to : Int) == 0) = false := by simp; omega
                      have hv : restB s.st s.kd s.fr s.to = false := by simp [restB, h1, h2, h3, h4, h5]
                      have HV := Lib.hid hv
                      clear hv
                      go_wp2_with fail
                      go_meet
                      exact ⟨by rw [HV.out], rfl⟩


                  · have b_fr_0 : ((s.fr : Int) == 0) = false := by simp; omega
                    have hv : restB s.st s.kd s.fr s.to = false := by simp [restB, h1, h2, h3, h4]
                    have HV := Lib.hid hv
                    clear hv
                    go_wp2_with fail
                    go_meet
                    exact ⟨by rw [HV.out], rfl⟩


                · have b_kd_0 : ((s.kd : Int) == 0) = false := by simp; omega
                  have hv : restB s.st s.kd s.fr s.to = false := by simp [restB, h1, h2, h3]
                  have HV := Lib.hid hv
                  clear hv
                  go_wp2_with fail
                  go_meet
                  exact ⟨by rw [HV.out], rfl⟩


              · have b_le : decide ((s.st : Int) ≤ 2) = false := decide_eq_false (by omega)
                have hv : restB s.st s.kd s.fr s.to = false := by simp [restB, h1, h2]
                have HV := Lib.hid hv
                clear hv
                go_wp2_with fail
                go_meet
                exact ⟨by rw [HV.out], rfl⟩



          case rest =>
            obtain ⟨rfl, rfl⟩ := hcut
            generalize busyB s.st s.kd = bB at HBR ⊢
            generalize restB s.st s.kd s.fr s.to = rB at HBR ⊢
            go_wp2_with (go_at_call 15; refine (works_at _).mono ?_; rintro e w6 ⟨rfl, hk6⟩; have HK6 := Lib.hid hk6; clear hk6)
            go_ret
            exact ⟨rfl, (HK3.out.trans HK6.out).below (Nat.le_refl _) (by simp)⟩

      · have hEE : E = 2 ∧ ¬ (s.bits < 8 ∧ s.mask < 8 ∧ ordS s.st s.kd s.fr s.to = true) := by
          have h1 := HE.out.1
          rw [h1] at hE0 ⊢
          unfold loadErr at hE0 ⊢
          rw [if_neg (by rw [← HE.out.2]; simp [hE1]), if_neg hQ] at hE0 ⊢
          split
          · rename_i h; rw [if_pos h] at hE0; exact absurd rfl hE0
          · rename_i h; exact ⟨rfl, h⟩
        obtain ⟨rfl, hno⟩ := hEE
        have HNO := Lib.hid hno
        clear hno
        subst hE1
        have x1 : decide ((32 : Int) < (s.queue.length : Int)) = false := decide_eq_false (by omega)
        go_enter Try.func5, Try.ntmps5
        go_upto_region 3 with (first
          | (refine wpList_load_midG (by rfl) 47 (.tmp 1) rfl w.heap.size 0 (by rfl) _ _ hA1 Try.underlying47 rfl (by rw [Array.length_toList, hsz]; exact info_saved) ?_)
          | (go_at_call 17; refine (LD.out _ kA hE0).mono ?_; rintro e w2 ⟨rfl, hk2⟩; have hh2 := hk2.heap hh (by simp); have HK2 := Lib.hid (kA.trans hk2); obtain ⟨-, c24, c25, c26, c27, c28, c29, c30, c31, c32, c33, c34⟩ := H.out.v.heap hh2; clear hk2)
          | (go_at_call 18; refine (FE.out _ HK2.out).mono ?_; rintro e w3 ⟨rfl, hk3⟩; have HK3 := Lib.hid (HK2.out.trans hk3); have hh3 := hk3.heap hh2 (by simp); clear hk3))
        obtain ⟨-, d24, d25, d26, d27, d28, d29, d30, d31, d32, d33, d34⟩ := H.out.v.heap hh3
        clear c24 c25 c26 c27 c28 c29 c30 c31 c32 c33 c34
        go_upto_region 5 with fail
        go_cut [6] (fun v wx => v = .bool (busyB s.st s.kd) ∧ wx = w3)
        case first =>
          by_cases h1 : s.st = 1
          · have b_st_1 : ((s.st : Int) == 1) = true := by simp; omega
            by_cases h2 : s.kd = 1
            · have b_kd_1 : ((s.kd : Int) == 1) = true := by simp; omega
              have hv : busyB s.st s.kd = true := by simp [busyB, h1, h2]
              have HV := Lib.hid hv
              clear hv
              go_wp2_with fail
              go_meet
              exact ⟨by rw [HV.out], rfl⟩

            · have b_kd_1 : ((s.kd : Int) == 1) = false := by simp; omega
              by_cases h3 : s.kd = 2
              · have b_kd_2 : ((s.kd : Int) == 2) = true := by simp; omega
                have hv : busyB s.st s.kd = true := by simp [busyB, h1, h3]
                have HV := Lib.hid hv
                clear hv
                go_wp2_with fail
                go_meet
                exact ⟨by rw [HV.out], rfl⟩

              · have b_kd_2 : ((s.kd : Int) == 2) = false := by simp; omega
                have hv : busyB s.st s.kd = false := by simp [busyB, h1, h2, h3]
                have HV := Lib.hid hv
                clear hv
                go_wp2_with fail
                go_meet
                exact ⟨by rw [HV.out], rfl⟩



          · have b_st_1 : ((s.st : Int) == 1) = false := by simp; omega
            have hv : busyB s.st s.kd = false := by simp [busyB, h1]
            have HV := Lib.hid hv
            clear hv
            go_wp2_with fail
            go_meet
            exact ⟨by rw [HV.out], rfl⟩


        case rest =>
          obtain ⟨rfl, rfl⟩ := hcut
          go_upto_region 6 with fail
          go_cut [7] (fun v wx => v = .bool (restB s.st s.kd s.fr s.to) ∧ wx = wc)
          case first =>
            by_cases h1 : s.st = 1
            · have b_st_1 : ((s.st : Int) != 1) = false := by simp; omega
              have hv : restB s.st s.kd s.fr s.to = false := by simp [restB, h1]
              have HV := Lib.hid hv
              clear hv
              go_wp2_with fail
              go_meet
              exact ⟨by rw [HV.out], rfl⟩

            · have b_st_1 : ((s.st : Int) != 1) = true := by simp; omega
              by_cases h2 : s.st ≤ 2
              · have b_le : decide ((s.st : Int) ≤ 2) = true := decide_eq_true (by omega)
                by_cases h3 : s.kd = 0
                · have b_kd_0 : ((s.kd : Int) == 0) = true := by simp; omega
                  by_cases h4 : s.fr = 0
                  · have b_fr_0 : ((s.fr : Int) == 0) = true := by simp; omega
                    by_cases h5 : s.to = 0
                    · have b_to_0 : ((s.to : Int) == 0) = true := by simp; omega
                      have hv : restB s.st s.kd s.fr s.to = true := by simp [restB, h1, h2, h3, h4, h5]
                      have HV := Lib.hid hv
                      clear hv
                      go_wp2_with fail
                      go_meet
                      exact ⟨by rw [HV.out], rfl⟩

                    · have b_to_0 : ((s.to : Int) == 0) = false := by simp; omega
                      have hv : restB s.st s.kd s.fr s.to = false := by simp [restB, h1, h2, h3, h4, h5]
                      have HV := Lib.hid hv
                      clear hv
                      go_wp2_with fail
                      go_meet
                      exact ⟨by rw [HV.out], rfl⟩


                  · have b_fr_0 : ((s.fr : Int) == 0) = false := by simp; omega
                    have hv : restB s.st s.kd s.fr s.to = false := by simp [restB, h1, h2, h3, h4]
                    have HV := Lib.hid hv
                    clear hv
                    go_wp2_with fail
                    go_meet
                    exact ⟨by rw [HV.out], rfl⟩


                · have b_kd_0 : ((s.kd : Int) == 0) = false := by simp; omega
                  have hv : restB s.st s.kd s.fr s.to = false := by simp [restB, h1, h2, h3]
                  have HV := Lib.hid hv
                  clear hv
                  go_wp2_with fail
                  go_meet
                  exact ⟨by rw [HV.out], rfl⟩


              · have b_le : decide ((s.st : Int) ≤ 2) = false := decide_eq_false (by omega)
                have hv : restB s.st s.kd s.fr s.to = false := by simp [restB, h1, h2]
                have HV := Lib.hid hv
                clear hv
                go_wp2_with fail
                go_meet
                exact ⟨by rw [HV.out], rfl⟩



          case rest =>
            obtain ⟨rfl, rfl⟩ := hcut
            generalize busyB s.st s.kd = bB at HBR ⊢
            generalize restB s.st s.kd s.fr s.to = rB at HBR ⊢
            by_cases hb : s.bits < 8
            · have z1 : decide ((7 : Int) < (s.bits : Int)) = false := decide_eq_false (by omega)
              have z1' : ¬ 7 < s.bits := by omega
              by_cases hm : s.mask < 8
              · have z2 : decide ((7 : Int) < (s.mask : Int)) = false := decide_eq_false (by omega)
                have z2' : ¬ 7 < s.mask := by omega
                have ho : (bB || rB) = false := by
                  rw [← HBR.out]
                  cases ho : ordS s.st s.kd s.fr s.to
                  · rfl
                  · exact absurd ⟨hb, hm, ho⟩ HNO.out
                cases bB
                · cases rB
                  · clear ho
                    go_wp2_with (go_at_call 15; refine (works_at _).mono ?_; rintro e w6 ⟨rfl, hk6⟩; have HK6 := Lib.hid hk6; clear hk6)
                    go_ret
                    exact ⟨rfl, (HK3.out.trans HK6.out).below (Nat.le_refl _) (by simp)⟩

                  · cases ho
                · cases ho
              · have z2 : decide ((7 : Int) < (s.mask : Int)) = true := decide_eq_true (by omega)
                have z2' : 7 < s.mask := by omega
                go_wp2_with (go_at_call 15; refine (works_at _).mono ?_; rintro e w6 ⟨rfl, hk6⟩; have HK6 := Lib.hid hk6; clear hk6)
                go_ret
                exact ⟨rfl, (HK3.out.trans HK6.out).below (Nat.le_refl _) (by simp)⟩

            · have z1 : decide ((7 : Int) < (s.bits : Int)) = true := decide_eq_true (by omega)
              have z1' : 7 < s.bits := by omega
              go_wp2_with (go_at_call 15; refine (works_at _).mono ?_; rintro e w6 ⟨rfl, hk6⟩; have HK6 := Lib.hid hk6; clear hk6)
              go_ret
              exact ⟨rfl, (HK3.out.trans HK6.out).below (Nat.le_refl _) (by simp)⟩


    · have hEE : E = E1 := by
        have h1 := HE.out.1
        rw [HE.out.2] at hE1 ⊢
        rw [h1]; unfold loadErr; rw [if_pos hE1]
      subst hEE
      have x1 : ((E : Int) == 0) = false := by simp; omega
      have x2 : ((E : Int) != 0) = true := by simp; omega
      go_enter Try.func5, Try.ntmps5
      go_upto_region 3 with (first
        | (refine wpList_load_midG (by rfl) 47 (.tmp 1) rfl w.heap.size 0 (by rfl) _ _ hA1 Try.underlying47 rfl (by rw [Array.length_toList, hsz]; exact info_saved) ?_)
        | (go_at_call 17; refine (LD.out _ kA hE0).mono ?_; rintro e w2 ⟨rfl, hk2⟩; have hh2 := hk2.heap hh (by simp); have HK2 := Lib.hid (kA.trans hk2); obtain ⟨-, c24, c25, c26, c27, c28, c29, c30, c31, c32, c33, c34⟩ := H.out.v.heap hh2; clear hk2)
        | (go_at_call 18; refine (FE.out _ HK2.out).mono ?_; rintro e w3 ⟨rfl, hk3⟩; have HK3 := Lib.hid (HK2.out.trans hk3); have hh3 := hk3.heap hh2 (by simp); clear hk3))
      obtain ⟨-, d24, d25, d26, d27, d28, d29, d30, d31, d32, d33, d34⟩ := H.out.v.heap hh3
      clear c24 c25 c26 c27 c28 c29 c30 c31 c32 c33 c34
      go_upto_region 5 with fail
      go_cut [6] (fun v wx => v = .bool (busyB s.st s.kd) ∧ wx = w3)
      case first =>
        by_cases h1 : s.st = 1
        · have b_st_1 : ((s.st : Int) == 1) = true := by simp; omega
          by_cases h2 : s.kd = 1
          · have b_kd_1 : ((s.kd : Int) == 1) = true := by simp; omega
            have hv : busyB s.st s.kd = true := by simp [busyB, h1, h2]
            have HV := Lib.hid hv
            clear hv
            go_wp2_with fail
            go_meet
            exact ⟨by rw [HV.out], rfl⟩

          · have b_kd_1 : ((s.kd : Int) == 1) = false := by simp; omega
            by_cases h3 : s.kd = 2
            · have b_kd_2 : ((s.kd : Int) == 2) = true := by simp; omega
              have hv : busyB s.st s.kd = true := by simp [busyB, h1, h3]
              have HV := Lib.hid hv
              clear hv
              go_wp2_with fail
              go_meet
              exact ⟨by rw [HV.out], rfl⟩

            · have b_kd_2 : ((s.kd : Int) == 2) = false := by simp; omega
              have hv : busyB s.st s.kd = false := by simp [busyB, h1, h2, h3]
              have HV := Lib.hid hv
              clear hv
              go_wp2_with fail
              go_meet
              exact ⟨by rw [HV.out], rfl⟩



        · have b_st_1 : ((s.st : Int) == 1) = false := by simp; omega
          have hv : busyB s.st s.kd = false := by simp [busyB, h1]
          have HV := Lib.hid hv
          clear hv
          go_wp2_with fail
          go_meet
          exact ⟨by rw [HV.out], rfl⟩


      case rest =>
        obtain ⟨rfl, rfl⟩ := hcut
        go_upto_region 6 with fail
        go_cut [7] (fun v wx => v = .bool (restB s.st s.kd s.fr s.to) ∧ wx = wc)
        case first =>
          by_cases h1 : s.st = 1
          · have b_st_1 : ((s.st : Int) != 1) = false := by simp; omega
            have hv : restB s.st s.kd s.fr s.to = false := by simp [restB, h1]
            have HV := Lib.hid hv
            clear hv
            go_wp2_with fail
            go_meet
            exact ⟨by rw [HV.out], rfl⟩

          · have b_st_1 : ((s.st : Int) != 1) = true := by simp; omega
            by_cases h2 : s.st ≤ 2
            · have b_le : decide ((s.st : Int) ≤ 2) = true := decide_eq_true (by omega)
              by_cases h3 : s.kd = 0
              · have b_kd_0 : ((s.kd : Int) == 0) = true := by simp; omega
                by_cases h4 : s.fr = 0
                · have b_fr_0 : ((s.fr : Int) == 0) = true := by simp; omega
                  by_cases h5 : s.to = 0
                  · have b_to_0 : ((s.to : Int) == 0) = true := by simp; omega
                    have hv : restB s.st s.kd s.fr s.to = true := by simp [restB, h1, h2, h3, h4, h5]
                    have HV := Lib.hid hv
                    clear hv
                    go_wp2_with fail
                    go_meet
                    exact ⟨by rw [HV.out], rfl⟩

                  · have b_to_0 : ((s.to : Int) == 0) = false := by simp; omega
                    have hv : restB s.st s.kd s.fr s.to = false := by simp [restB, h1, h2, h3, h4, h5]
                    have HV := Lib.hid hv
                    clear hv
                    go_wp2_with fail
                    go_meet
                    exact ⟨by rw [HV.out], rfl⟩


                · have b_fr_0 : ((s.fr : Int) == 0) = false := by simp; omega
                  have hv : restB s.st s.kd s.fr s.to = false := by simp [restB, h1, h2, h3, h4]
                  have HV := Lib.hid hv
                  clear hv
                  go_wp2_with fail
                  go_meet
                  exact ⟨by rw [HV.out], rfl⟩


              · have b_kd_0 : ((s.kd : Int) == 0) = false := by simp; omega
                have hv : restB s.st s.kd s.fr s.to = false := by simp [restB, h1, h2, h3]
                have HV := Lib.hid hv
                clear hv
                go_wp2_with fail
                go_meet
                exact ⟨by rw [HV.out], rfl⟩


            · have b_le : decide ((s.st : Int) ≤ 2) = false := decide_eq_false (by omega)
              have hv : restB s.st s.kd s.fr s.to = false := by simp [restB, h1, h2]
              have HV := Lib.hid hv
              clear hv
              go_wp2_with fail
              go_meet
              exact ⟨by rw [HV.out], rfl⟩



        case rest =>
          obtain ⟨rfl, rfl⟩ := hcut
          generalize busyB s.st s.kd = bB at HBR ⊢
          generalize restB s.st s.kd s.fr s.to = rB at HBR ⊢
          go_wp2_with (go_at_call 15; refine (works_at _).mono ?_; rintro e w6 ⟨rfl, hk6⟩; have HK6 := Lib.hid hk6; clear hk6)
          go_ret
          exact ⟨rfl, (HK3.out.trans HK6.out).below (Nat.le_refl _) (by simp)⟩


end Go.Proofs.Ytgeakpeaohggoaa
