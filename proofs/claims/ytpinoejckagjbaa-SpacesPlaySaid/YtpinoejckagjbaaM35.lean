/- Contracts of the functions that the law reaches, walked, and the plain laws on them (several texts in one). -/
import Derived.Outline
import Derived.Test.YtpinoejckagjbaaM34

/- The document's spaces: a page put. -/
namespace Go.Proofs.Ytpinoejckagjbaa
open Go.RowKit Go.Mum
set_option linter.unusedVariables false
set_option linter.unusedSimpArgs false
set_option maxRecDepth 100000

/-- A space without pages. -/
def RSt.bare (R : RSt) (k : Nat) : RSt := R.put k [] [] (.slice none 0 0) (.slice none 0 0) (R.mf k)

theorem upd_self {α : Type} (f : Nat → α) (a : Nat) : updN f a (f a) = f := by
  funext k
  by_cases h : k = a
  · rw [h, updN_same]
  · rw [updN_ne h]

/-- How the document's lists go through a put. -/
def PutF (R : RSt) (age : List Nat) (most a va : Nat) (frame : Int) (bb : Nat) (b : Bool) (R' : RSt) : Prop :=
  (R'.tk = R.tk ∧ R'.ur = R.ur ∧ R'.kp = R.kp ∧ R'.kr = R.kr) ∧
  ((∃ P1 S1, OneM R (totS R age) most a va frame bb true P1 S1 ∧ b = true ∧ R'.P = updN R.P a P1 ∧ R'.S = updN R.S a S1) ∨
   (OneM R (totS R age) most a va frame bb false (R.P a) (R.S a) ∧ b = false ∧ R'.P = R.P ∧ R'.S = R.S ∧ (32768 ≤ va ∨ (16384 ≤ va ∧ R.ur a = true) ∨ frame < 0 ∨ 60 ≤ frame ∨ ∀ j ∈ age, R.S j = [])) ∨
   (OneM R (totS R age) most a va frame bb false (R.P a) (R.S a) ∧ va < 32768 ∧ ¬ (16384 ≤ va ∧ R.ur a = true) ∧ 0 ≤ frame ∧ frame < 60 ∧ ∃ (k : Nat) (hk : k < age.length), (∀ j (hj : j < age.length), j < k → R.S age[j] = []) ∧ R.S age[k] ≠ [] ∧ b = true ∧ ∃ P1 S1, OneM (R.bare age[k]) (totS (R.bare age[k]) age) most a va frame bb true P1 S1 ∧ R'.P = updN (R.bare age[k]).P a P1 ∧ R'.S = updN (R.bare age[k]).S a S1))

def RfPut (B rb most : Nat) (R : RSt) (age : List Nat) (ga ca : Nat) (hv : Value) (c a va : Nat) (frame : Int) (bb : Nat) (x : World) (e : Ending) (y : World) : Prop :=
  ∃ b R', e = .returned (.bool b) ∧ PutF R age most a va frame bb b R' ∧ RcAt y B rb most R' age true ga ca hv (c + 2) ∧ KeepTo (RcW R age rb ga) x y ∧ TvSub x.heap.size R age R' age

theorem tot_bare {R : RSt} {age : List Nat} (hn : age.Nodup) {k : Nat} (hk : k ∈ age) : totS (R.bare k) age + (R.S k).length = totS R age := by
  induction age with
  | nil => cases hk
  | cons q l ih =>
    rw [List.nodup_cons] at hn
    show (((q :: l).map fun j => ((R.bare k).S j).length).sum) + _ = ((q :: l).map fun j => (R.S j).length).sum
    rw [List.map_cons, List.map_cons, List.sum_cons, List.sum_cons]
    rcases List.mem_cons.1 hk with rfl | hk
    · have h1 : ((R.bare k).S k).length = 0 := by show (updN R.S k [] k).length = 0; rw [updN_same]; rfl
      have h2 : (l.map fun j => ((R.bare k).S j).length) = l.map fun j => (R.S j).length := List.map_congr_left (fun j hj => by
        show (updN R.S k [] j).length = _
        rw [updN_ne (by rintro rfl; exact hn.1 hj)])
      rw [h1, h2]; omega
    · have h1 : ((R.bare k).S q).length = (R.S q).length := by
        show (updN R.S k [] q).length = _
        rw [updN_ne (by rintro rfl; exact hn.1 hk)]
      have := ih hn.2 hk
      unfold totS at this
      rw [h1]; omega

theorem totS_put {R : RSt} {age : List Nat} {a : Nat} {P : List Pg} {pv tv : Value} {mf : Int} : totS (R.put a P (R.S a) pv tv mf) age = totS R age := by
  unfold totS RSt.put
  simp only [upd_self]

theorem OneM.congr {R R' : RSt} {tot tot' most a va : Nat} {frame : Int} {bb : Nat} {b : Bool} {P : List Pg} {S : List Nat} (h : OneM R tot most a va frame bb b P S) (h1 : R.P = R'.P) (h2 : R.S = R'.S) (h3 : R.ur = R'.ur) (h4 : tot = tot') : OneM R' tot' most a va frame bb b P S := by
  unfold OneM at *
  rw [← h1, ← h2, ← h3, ← h4]; exact h

theorem tot_congr {R R' : RSt} (h : R.S = R'.S) (age : List Nat) : totS R age = totS R' age := by unfold totS; rw [h]

set_option maxHeartbeats 4000000 in
theorem rfput_at {x : World} {B rb most : Nat} {R : RSt} {age : List Nat} {ga ca : Nat} {hv : Value} {c : Nat} (h : RcAt x B rb most R age true ga ca hv c) (hc : c ≤ 700) (hm : most ≤ 9) (htot : totS R age ≤ most) {i : Nat} (hi : i + 1 = age.length) (va : Nat) (frame : Int) (bb : Nat) (hv1 : va < 4294967296) (hf1 : -9223372036854775808 ≤ frame) (hf2 : frame ≤ 9223372036854775807) (hb : bb < 4294967296) :
    Calls Try.prog 72 #[.pointer (some ⟨rb, 0, none⟩), .int .u32 va, .int .i64 frame, .int .u32 bb] x (RfPut B rb most R age ga ca hv c (age[i]'(by omega)) va frame bb x) := by
  have HR := Lib.hid h
  obtain ⟨c0, c1, c2, c3, c4⟩ := h.cells
  have hil : i < age.length := by omega
  have C1 := Lib.hid (rfone_at h (by omega) hm htot hi va frame bb hv1 hf1 hf2 hb)
  obtain ⟨a, ha⟩ : ∃ a, a = age[i] := ⟨_, rfl⟩
  rw [← ha] at C1 ⊢
  have HA := Lib.hid ha
  clear h ha
  go_enter Try.func72, Try.ntmps72
  go_wp2_with fail
  refine C1.out.mono ?_
  rintro e y ⟨b, P1, S1, pv1, tv1, mf1, rfl, hO, hRy, hKy, hTy⟩
  have HO := Lib.hid (And.intro hO (And.intro hRy (And.intro hKy hTy)))
  clear c0 c1 c2 c3 c4 C1
  cases b
  rotate_left
  · have HF : Hid (RfPut B rb most R age ga ca hv c a va frame bb x (.returned (.bool true)) y) := Lib.hid ⟨true, R.put a P1 S1 pv1 tv1 mf1, rfl, ⟨⟨rfl, rfl, rfl, rfl⟩, .inl ⟨P1, S1, HO.out.1, rfl, rfl, rfl⟩⟩, HO.out.2.1.later (by omega), HO.out.2.2.1, HO.out.2.2.2⟩
    clear hO hRy hKy hTy
    go_wp2_with fail
    go_ret
    exact HF.out
  · have hsame : P1 = R.P a ∧ S1 = R.S a := by
      rcases hO with ⟨_, _, h1, h2⟩ | ⟨_, _, _, _, h1, h2⟩ | ⟨_, _, h, _⟩
      · exact ⟨h1, h2⟩
      · exact ⟨h1, h2⟩
      · cases h
    obtain ⟨rfl, rfl⟩ := hsame
    have hPS : (R.put a (R.P a) (R.S a) pv1 tv1 mf1).P = R.P ∧ (R.put a (R.P a) (R.S a) pv1 tv1 mf1).S = R.S ∧ totS (R.put a (R.P a) (R.S a) pv1 tv1 mf1) age = totS R age ∧ (R.put a (R.P a) (R.S a) pv1 tv1 mf1).ur = R.ur ∧ (R.put a (R.P a) (R.S a) pv1 tv1 mf1).tk = R.tk ∧ (R.put a (R.P a) (R.S a) pv1 tv1 mf1).kp = R.kp ∧ (R.put a (R.P a) (R.S a) pv1 tv1 mf1).kr = R.kr := ⟨upd_self _ _, upd_self _ _, totS_put, rfl, rfl, rfl, rfl⟩
    generalize R.put a (R.P a) (R.S a) pv1 tv1 mf1 = R1 at HO hRy hTy hPS
    have HPS := Lib.hid hPS
    have HFF : Hid ((32768 ≤ va ∨ (16384 ≤ va ∧ R.ur a = true) ∨ frame < 0 ∨ 60 ≤ frame ∨ ∀ j ∈ age, R.S j = []) → ∀ z, Keep [] y z → RfPut B rb most R age ga ca hv c a va frame bb x (.returned (.bool false)) z) := Lib.hid (fun hbad z hz => ⟨false, R1, rfl, ⟨⟨HPS.out.2.2.2.2.1, HPS.out.2.2.2.1, HPS.out.2.2.2.2.2.1, HPS.out.2.2.2.2.2.2⟩, .inr (.inl ⟨HO.out.1, rfl, HPS.out.1, HPS.out.2.1, hbad⟩)⟩, (HO.out.2.1.keep0 hz).later (by omega), HO.out.2.2.1.trans (Keep.upTo hz (by simp)), HO.out.2.2.2⟩)
    obtain ⟨c0, c1, c2, c3, c4⟩ := hRy.cells
    obtain ⟨n, hn⟩ : ∃ n, n = age.length := ⟨_, rfl⟩
    have w1 : IntKind.i64.wrap (i : Int) = (i : Int) := IntWalk.i64_in _ (by have := hRy.al; omega)
    have w1' : (n : Int) - 1 = (i : Int) := by omega
    have hi0 : (0 : Int) ≤ (i : Int) := by omega
    have hi1 : (i : Int) < (n : Int) := by omega
    rw [← hn] at c0
    have q3 : y.cell? ⟨ga, i * 8 + 3, none⟩ = some (.bool (R1.ur a)) := by rw [hRy.cell hil (by omega), ← HA.out]; rfl
    have q4 : y.cell? ⟨ga, i * 8 + 4, none⟩ = some (.int .i64 60) := by rw [hRy.cell hil (by omega), ← HA.out]; rfl
    rw [hPS.2.2.2.1] at q3
    have CL : Hid (∀ d, Calls Try.prog 74 #[.pointer (some ⟨rb, 0, none⟩)] (y.drewN d) fun e z => e = .returned (.int .i64 ((most : Int) - (totS R age : Nat))) ∧ y.drewN d = z) := Lib.hid (fun d => by
      have := rfleft_at (HO.out.2.1.keep0 ((Keep.refl [] y).drewN d)) (by omega) (by omega)
      rwa [HPS.out.2.2.1] at this)
    obtain ⟨un, hun⟩ : ∃ un, un = R.ur a := ⟨_, rfl⟩
    rw [← hun] at q3
    have HUN := Lib.hid hun
    have HN := Lib.hid hn
    by_cases hbad : 32768 ≤ va ∨ (16384 ≤ va ∧ un = true) ∨ frame < 0 ∨ 60 ≤ frame
    · have HF := Lib.hid (HFF.out (by
        rw [← HUN.out]
        rcases hbad with h | h | h | h
        · exact .inl h
        · exact .inr (.inl h)
        · exact .inr (.inr (.inl h))
        · exact .inr (.inr (.inr (.inl h)))))
      have hsplit : 32768 ≤ va ∨ (va < 32768 ∧ frame < 0) ∨ (va < 32768 ∧ ¬ (frame < 0) ∧ 60 ≤ frame) ∨ (va < 32768 ∧ ¬ (frame < 0) ∧ ¬ (60 ≤ frame) ∧ 16384 ≤ va ∧ un = true) := by
        by_cases a1 : 32768 ≤ va
        · exact .inl a1
        · by_cases a2 : frame < 0
          · exact .inr (.inl ⟨by omega, a2⟩)
          · by_cases a3 : 60 ≤ frame
            · exact .inr (.inr (.inl ⟨by omega, a2, a3⟩))
            · rcases hbad with q | q | q | q
              · omega
              · exact .inr (.inr (.inr ⟨by omega, a2, a3, q⟩))
              · omega
              · omega
      rcases hsplit with h1 | ⟨h1, h2⟩ | ⟨h1, h2, h3⟩ | ⟨h1, h2, h3, h4, rfl⟩
      · have g1 : (32768 : Int) ≤ (va : Int) := by omega
        clear hbad hO hRy hKy hTy hPS hn hun h1
        go_wp2_with fail
        go_quiet (fail)
        go_wp2_with fail
        go_ret
        exact HF.out _ ((Keep.refl [] y).drewN _)
      · have g1 : ¬ ((32768 : Int) ≤ (va : Int)) := by omega
        clear hbad hO hRy hKy hTy hPS hn hun h1
        go_wp2_with fail
        go_quiet (fail)
        go_wp2_with fail
        go_ret
        exact HF.out _ ((Keep.refl [] y).drewN _)
      · have g1 : ¬ ((32768 : Int) ≤ (va : Int)) := by omega
        clear hbad hO hRy hKy hTy hPS hn hun h1
        go_wp2_with fail
        go_quiet (fail)
        go_wp2_with fail
        go_ret
        exact HF.out _ ((Keep.refl [] y).drewN _)
      · have g1 : ¬ ((32768 : Int) ≤ (va : Int)) := by omega
        have g2 : (16384 : Int) ≤ (va : Int) := by omega
        clear hbad hO hRy hKy hTy hPS hn hun h1 h4
        go_wp2_with fail
        go_quiet (fail)
        go_wp2_with fail
        go_ret
        exact HF.out _ ((Keep.refl [] y).drewN _)
    · have hva : va < 32768 := by omega
      have hfr : 0 ≤ frame ∧ frame < 60 := by omega
      have hub : ¬ (16384 ≤ va ∧ un = true) := fun q => hbad (.inr (.inl q))
      have hfull : totS R age = most := by
        rcases hO with ⟨h1, _⟩ | ⟨_, _, h1, _⟩ | ⟨_, _, h1, _⟩
        · rw [← HUN.out] at h1; exact absurd h1 hbad
        · omega
        · cases h1
      have HFU := Lib.hid hfull
      have hz0 : (most : Int) - (totS R age : Nat) = 0 := by omega
      rw [hz0] at CL
      have g1 : decide ((32768 : Int) ≤ (va : Int)) = false := decide_eq_false (by omega)
      have g2 : decide (frame < 0) = false := decide_eq_false (by omega)
      have g3 : decide (60 ≤ frame) = false := decide_eq_false (by omega)
      have hgd : decide ((16384 : Int) ≤ (va : Int)) = false ∨ (decide ((16384 : Int) ≤ (va : Int)) = true ∧ un = false) := by
        by_cases h1 : 16384 ≤ va
        · exact .inr ⟨decide_eq_true (by omega), by cases hq : un with
            | false => rfl
            | true => exact absurd ⟨h1, hq⟩ hub⟩
        · exact .inl (decide_eq_false (by omega))
      have HOK : Hid (va < 32768 ∧ ¬ (16384 ≤ va ∧ R.ur a = true) ∧ 0 ≤ frame ∧ frame < 60) := Lib.hid ⟨hva, by rw [← HUN.out]; exact hub, hfr⟩
      clear hbad hO hRy hKy hTy hPS hn hun hz0 hfull hub hva hfr
      rcases hgd with g4 | ⟨g4, rfl⟩
      all_goals
        go_wp2_with fail
        go_quiet (fail)
        generalize hy2 : World.drewN y _ = y2
        have HY2 : Hid (Keep [] y y2) := Lib.hid (by subst hy2; exact (Keep.refl [] y).drewN _)
        have CL2 : Hid (Calls Try.prog 74 #[.pointer (some ⟨rb, 0, none⟩)] y2 fun e z => e = .returned (.int .i64 0) ∧ y2 = z) := Lib.hid (by subst hy2; exact CL.out _)
        replace c0 := HY2.out.cell c0 (by simp)
        replace c1 := HY2.out.cell c1 (by simp)
        replace c2 := HY2.out.cell c2 (by simp)
        replace c3 := HY2.out.cell c3 (by simp)
        replace c4 := HY2.out.cell c4 (by simp)
        replace q3 := HY2.out.cell q3 (by simp)
        replace q4 := HY2.out.cell q4 (by simp)
        clear hy2 CL
        go_wp2_with (go_at_call 74; refine CL2.out.mono ?_; rintro e z ⟨rfl, rfl⟩)
        have HRY := Lib.hid (HO.out.2.1.keep0 HY2.out)
        have hn8 : n ≤ 8 := by have := HRY.out.al; have := HN.out; omega
        clear c1 c3 c4 q3 q4 w1 w1' CL2 c2
        go_loopw [10] (fun kv wr => ∃ k : Nat, kv = .int .i64 k ∧ k ≤ n ∧ Hid (∀ j (hj : j < age.length), j < k → R.S age[j] = []) ∧ y2 = wr) (fun kv _ => n - (intOf kv).toNat)
        case atStart => exact ⟨0, rfl, by omega, Lib.hid (fun j hj q => by omega), rfl⟩
        case round =>
          obtain ⟨k, rfl, hk1, HJ, rfl⟩ := hrel
          by_cases hkl : k < n
          · have hkl' : k < age.length := by rw [← HN.out]; exact hkl
            have hk0 : (0 : Int) ≤ (k : Int) := by omega
            have hk3 : (k : Int) < (n : Int) := by omega
            have hmem := List.getElem_mem hkl'
            obtain ⟨ta, tc, htv⟩ := own_form (HRY.out.trow _ hmem)
            have hq6 := HRY.out.cell hkl' (j := 6) (by omega)
            obtain ⟨ak, hak⟩ : ∃ ak, ak = age[k] := ⟨_, rfl⟩
            rw [← hak] at htv hq6 hmem
            have HAK := Lib.hid hak
            replace hq6 : y2.cell? ⟨ga, k * 8 + 4 + 2, none⟩ = some (.slice ta (R1.S ak).length tc) := by rw [← htv]; exact hq6
            rw [HPS.out.2.1] at hq6
            obtain ⟨tl, htl⟩ : ∃ tl, tl = (R.S ak).length := ⟨_, rfl⟩
            rw [← htl] at hq6
            have HTL := Lib.hid htl
            clear hak htv htl
            by_cases hz : tl = 0
            · have HJ2 : Hid (∀ j (hj : j < age.length), j < k + 1 → R.S age[j] = []) := Lib.hid (fun j hj q => by
                rcases (by omega : j < k ∨ j = k) with q | rfl
                · exact HJ.out j hj q
                · rw [← HAK.out]; exact List.eq_nil_of_length_eq_zero (by rw [← HTL.out]; exact hz))
              subst hz
              have HLT := Lib.hid hkl
              clear hkl hk1 hmem
              go_wp2_with fail
              go_roundw
              case rel => exact ⟨k + 1, by go_num, by have := HLT.out; omega, HJ2, trivial⟩
              case measure => simp [intOf]; have := HLT.out; omega
            · have htp : (0 : Int) < (tl : Int) := by omega
              obtain ⟨f, hS, hf, hca, hmx⟩ := HRY.out.one hkl'
              rw [← HAK.out] at hS
              have CC := Lib.hid (riclear_at hS)
              have HSS := Lib.hid (And.intro hS (And.intro hf (And.intro hca hmx)))
              have HZ := Lib.hid hz
              clear hS hf hca hmx hz hkl hk1
              go_wp2_with fail
              refine CC.out.mono ?_
              rintro e z ⟨⟨v, rfl⟩, hRI, hkz⟩
              have hyz := HY2.out.size
              have hyz2 := hkz.size
              have hR2 : RcAt z B rb most (R1.bare ak) age true ga ca hv (c + 1) := by
                have := HRY.out.back hkl' HSS.out.2.1 HSS.out.2.2.1 HSS.out.2.2.2 hRI (fun j h5 h6 h7 => by rw [fset_ne (by omega), fset_ne (by omega)]) (Keep.upTo hkz (by simp)) (fun g hg => by cases hg) (fun g hg => by cases hg) (Nat.le_refl _) (by simp) (by simp)
                rw [← HAK.out] at this
                exact this
              have hnd := HRY.out.nd
              have htb := tot_bare (R := R1) hnd hmem
              have htl1 : (R1.S ak).length = tl := by rw [HPS.out.2.1, ← HTL.out]
              have ht2 : totS (R1.bare ak) age < most := by have := HPS.out.2.2.1; have := HFU.out; omega
              have hgaB := (own_block HRY.out.all (g := ga) rfl).1
              have hbs : TvSub y2.heap.size R1 age (R1.bare ak) age := TvSub.put (fun g hg => by cases hg) hmem
              have HZ2 := Lib.hid (And.intro ht2 (And.intro (KeepTo.chain (P := RcW R1 age rb ga) (Keep.upTo HY2.out (by simp)) (Keep.upTo (P := fun k => k = ga) hkz (by simp)) (fun k hk => .inl (.inr (.inl hk)))) (And.intro hbs (And.intro hyz hyz2))))
              have C2 := Lib.hid (rfone_at hR2 (by omega) hm (by omega) hi va frame bb hv1 hf1 hf2 hb)
              rw [← HA.out] at C2
              clear hR2 hRI hkz hnd htb htl1 ht2 hgaB HSS CC hmem hbs hyz hyz2
              go_wp2_with fail
              refine C2.out.mono ?_
              rintro e z2 ⟨b2, P2, S2, pv2, tv2, mf2, rfl, hO2, hRz, hKz, hTz⟩
              have hb2 : b2 = true := by
                rcases hO2 with ⟨h1, _⟩ | ⟨_, _, h1, _⟩ | ⟨_, _, h1, _⟩
                · exfalso
                  have hur : (R1.bare ak).ur a = R.ur a := by show R1.ur a = _; rw [HPS.out.2.2.2.1]
                  rw [hur] at h1
                  have := HOK.out
                  rcases h1 with q | q | q | q
                  · omega
                  · exact this.2.1 q
                  · omega
                  · omega
                · have := HZ2.out.1; omega
                · exact h1
              subst hb2
              have HF : Hid (RfPut B rb most R age ga ca hv c a va frame bb x (.returned (.bool true)) z2) := Lib.hid ⟨true, (R1.bare ak).put a P2 S2 pv2 tv2 mf2, rfl, ⟨⟨HPS.out.2.2.2.2.1, HPS.out.2.2.2.1, HPS.out.2.2.2.2.2.1, HPS.out.2.2.2.2.2.2⟩, .inr (.inr ⟨HO.out.1, HOK.out.1, HOK.out.2.1, HOK.out.2.2.1, HOK.out.2.2.2, k, hkl', HJ.out, by rw [← HAK.out]; intro q; have := HTL.out; rw [q] at this; exact HZ.out this, rfl, P2, S2, by
                  rw [← HAK.out]
                  refine hO2.congr ?_ ?_ ?_ (tot_congr ?_ _)
                  · show updN R1.P ak [] = updN R.P ak []; rw [HPS.out.1]
                  · show updN R1.S ak [] = updN R.S ak []; rw [HPS.out.2.1]
                  · show R1.ur = R.ur; exact HPS.out.2.2.2.1
                  · show updN R1.S ak [] = updN R.S ak []; rw [HPS.out.2.1], by
                  rw [← HAK.out]
                  show updN (updN R1.P ak []) a P2 = updN (updN R.P ak []) a P2; rw [HPS.out.1], by
                  rw [← HAK.out]
                  show updN (updN R1.S ak []) a S2 = updN (updN R.S ak []) a S2; rw [HPS.out.2.1]⟩)⟩, hRz, by
                  have hs1 := HO.out.2.2.1.size
                  have hs2 := HZ2.out.2.2.2.1
                  have hs3 := HZ2.out.2.2.2.2
                  have k2 := HO.out.2.2.1.chain HZ2.out.2.1 (fun k hk => HO.out.2.2.2.w hk)
                  exact k2.chain hKz (fun k hk => by
                    rcases HZ2.out.2.2.1.w hk with q | q
                    · exact HO.out.2.2.2.w q
                    · exact .inr (by omega)), by
                  have hs1 := HO.out.2.2.1.size
                  have hs2 := HZ2.out.2.2.2.1
                  have hs3 := HZ2.out.2.2.2.2
                  exact HO.out.2.2.2.trans (HZ2.out.2.2.1.trans hTz (by omega)) (by omega)⟩
              clear hO2 hRz hKz hTz
              go_wp2_with fail
              go_ret
              exact HF.out
          · have hk3 : ¬ ((k : Int) < (n : Int)) := by omega
            have HF := Lib.hid (HFF.out (.inr (.inr (.inr (.inr (fun j hj => by
              obtain ⟨m, hm', rfl⟩ := List.getElem_of_mem hj
              exact HJ.out m hm' (by have := HN.out; omega)))))) y2 HY2.out)
            clear hkl hk1
            go_wp2_with fail
            go_ret
            exact HF.out
end Go.Proofs.Ytpinoejckagjbaa
