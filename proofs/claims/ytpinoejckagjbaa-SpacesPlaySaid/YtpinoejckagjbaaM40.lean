/- Contracts of the functions that the law reaches, walked, and the plain laws on them (several texts in one). -/
import Derived.WalkMore
import Derived.Deep.LoopGhost
import Derived.Test.YtpinoejckagjbaaM39

/- The program's spaces: a page put. -/
namespace Go.Proofs.Ytpinoejckagjbaa
open Go.RowKit Go.Mum
set_option linter.unusedVariables false
set_option linter.unusedSimpArgs false
set_option maxRecDepth 100000

/-- How the tables go through a put. -/
def PutQ (most ns : Nat) (T : Nat → Nat → Tab) (up : Nat → Bool) (lent : List Int) (age : List Nat) (n va : Nat) (frame : Int) (bb : Nat) (b : Bool) (T' : Nat → Nat → Tab) : Prop :=
  (PutM most ns T up lent n va frame bb true T' ∧ b = true) ∨
  (PutM most ns T up lent n va frame bb false T ∧ b = false ∧ T' = T ∧ ((∃ L1 lent1, MInv most ns T up L1 lent1 ∧ wantB T up most lent1 n va frame = false) ∨ ∀ j ∈ age, cntT (T j) 32 = 0)) ∨
  (PutM most ns T up lent n va frame bb false T ∧ b = true ∧ (∃ L1 lent1, MInv most ns T up L1 lent1 ∧ wantB T up most lent1 n va frame = true) ∧ ∃ (k : Nat) (hk : k < age.length), (∀ j (hj : j < age.length), j < k → cntT (T age[j]) 32 = 0) ∧ cntT (T age[k]) 32 ≠ 0 ∧ ∃ lent2, PutM most ns (setSh T age[k] fun _ => tab0) up lent2 n va frame bb true T')

def SPut (V : Nat → Prop) (q r fb g p pm most ns : Nat) (sh : Nat → Nat) (T : Nat → Nat → Tab) (up : Nat → Bool) (lent : List Int) (c : Nat) (A : QSt) (age : List Nat) (kept lost : Nat) (ga gc : Nat) (ea : Option Addr) (ec n va : Nat) (frame : Int) (bb : Nat) (x : World) (e : Ending) (y : World) : Prop :=
  ∃ b T', e = .returned (.bool b) ∧ PutQ most ns T up lent age n va frame bb b T' ∧ SpX V y q r fb g p pm most ns sh T' up (c + 2) A age true kept lost ga gc ea ec ∧ Keep (pwl q ga g p pm ns sh) x y

section
variable {x y : World} {q r fb g p pm most ns : Nat} {sh : Nat → Nat} {uv : Nat → Value} {T : Nat → Nat → Tab} {up : Nat → Bool} {L lent : List Int} {c : Nat} {A : QSt} {age : List Nat} {use : Bool} {kept lost : Nat} {f : Nat → Value} {ga gc : Nat} {ea : Option Addr} {ec : Nat}

theorem pwl_sub {n : Nat} (hn : n < ns) : ∀ k ∈ [sh n, g, p, pm], k ∈ pwl q ga g p pm ns sh := by
  intro k hk
  simp only [List.mem_cons, List.not_mem_nil, or_false] at hk
  rcases hk with rfl | rfl | rfl | rfl
  · simp only [pwl, List.mem_cons, List.mem_map, List.mem_range]; exact .inr (.inr (.inr (.inr (.inr ⟨n, hn, rfl⟩))))
  · simp [pwl]
  · simp [pwl]
  · simp [pwl]

/-- A call of a shadow. -/
theorem SpAt.shad (h : SpAt x q r fb g p pm most ns sh uv T up L lent c A age use kept lost f ga gc ea ec) {n : Nat} (hn : n < ns) (hk : Keep [sh n, g, p, pm] x y) {T' : Nat → Nat → Tab} {L' lent' : List Int} {c' : Nat} (hm : MAt y sh uv r fb g p pm most ns T' up L' lent' c') : SpAt y q r fb g p pm most ns sh uv T' up L' lent' c' A age use kept lost f ga gc ea ec := by
  have hnq := h.nq
  simp only [List.mem_cons, List.mem_map, List.mem_range, not_or, not_exists, not_and] at hnq
  refine ⟨hm, h.qq.nbs hk (fun z hz => ?_), h.us, h.nq, h.au, fun b o hb => Nat.lt_of_lt_of_le (h.eb b o hb) hk.size⟩
  simp only [List.mem_cons, List.not_mem_nil, or_false] at hz
  rcases hz with rfl | rfl | rfl | rfl
  · exact ⟨by simp only [qNb, List.mem_cons, List.mem_map, List.mem_range]; exact .inr (.inr (.inr (.inr (.inr (.inr ⟨n, hn, rfl⟩))))), hnq.2.2.2.2.2 n hn⟩
  · exact ⟨by simp [qNb], fun e => hnq.2.2.1 e.symm⟩
  · exact ⟨by simp [qNb], fun e => hnq.2.2.2.1 e.symm⟩
  · exact ⟨by simp [qNb], fun e => hnq.2.2.2.2.1 e.symm⟩

theorem SpAt.more (h : SpAt x q r fb g p pm most ns sh uv T up L lent c A age use kept lost f ga gc ea ec) {c' : Nat} (hc : c ≤ c') : SpAt x q r fb g p pm most ns sh uv T up L lent c' A age use kept lost f ga gc ea ec :=
  ⟨h.m.later hc, h.qq, h.us, h.nq, h.au, h.eb⟩

/-- A space with tables has lent frames. -/
theorem MInv.lent_pos {most ns : Nat} {T : Nat → Nat → Tab} {up : Nat → Bool} {L lent : List Int} (h : MInv most ns T up L lent) {k : Nat} (hk : k < ns) (ht : cntT (T k) 32 ≠ 0) {L' lent' : List Int} (h' : MInv most ns (setSh T k fun _ => tab0) up L' lent') : lent'.length < lent.length := by
  have : ∃ n, n < 32 ∧ (T k n).th = true := by
    by_cases hh : ∃ n, n < 32 ∧ (T k n).th = true
    · exact hh
    · exfalso
      refine ht ?_
      unfold cntT
      rw [List.length_eq_zero_iff, List.filter_eq_nil_iff]
      intro n hn
      rw [List.mem_range] at hn
      intro q
      exact hh ⟨n, hn, by simpa using q⟩
  obtain ⟨n, hn, htn⟩ := this
  have := nodup_le_int (((T k n).fr : Int) :: lent') lent (List.nodup_cons.2 ⟨fun hm => ?_, h'.lnd⟩) (fun z hz => ?_)
  · simp only [List.length_cons] at this; omega
  · obtain ⟨k', n', hk', hn', ht', he⟩ := (h'.lnt _).1 hm
    by_cases hkk : k' = k
    · subst hkk; rw [setSh_same] at ht'; cases ht'
    · rw [setSh_ne hkk] at ht' he
      exact hkk (h.inj k k' hk hk' n n' hn hn' htn ht' (by omega)).1.symm
  · rcases List.mem_cons.1 hz with rfl | hz
    · exact (h.lnt _).2 ⟨k, n, hk, hn, htn, rfl⟩
    · obtain ⟨k', n', hk', hn', ht', rfl⟩ := (h'.lnt _).1 hz
      by_cases hkk : k' = k
      · subst hkk; rw [setSh_same] at ht'; cases ht'
      · rw [setSh_ne hkk] at ht' ⊢
        exact (h.lnt _).2 ⟨k', n', hk', hn', ht', rfl⟩

set_option maxHeartbeats 8000000 in
theorem put_at (h : SpAt x q r fb g p pm most ns sh uv T up L lent c A age true kept lost f ga gc ea ec) (hc : c ≤ 90000) {i : Nat} (hi : i + 1 = age.length) (va : Nat) (frame : Int) (bb : Nat) (hv : va < 4294967296) (hf1 : -9223372036854775808 ≤ frame) (hf2 : frame ≤ 9223372036854775807) (hb : bb < 4294967296) :
    Calls Try.prog 32 #[.pointer (some ⟨q, 0, none⟩), .int .u32 va, .int .i64 frame, .int .u32 bb] x (SPut (UvIn uv up ns) q r fb g p pm most ns sh T up lent c A age kept lost ga gc ea ec (age[i]'(by omega)) va frame bb x) := by
  have HS := Lib.hid h
  have hil : i < age.length := by omega
  have hnl := h.qq.lt _ (List.getElem_mem hil)
  have CN := Lib.hid (now_quiet h.qq hi)
  have CW := Lib.hid (fun (u : World) (uv : Nat → Value) (L lent : List Int) (f : Nat → Value) (h : SpAt u q r fb g p pm most ns sh uv T up L lent (c + 1) A age true kept lost f ga gc ea ec) => wants_at h hi va frame hv hf1 hf2)
  obtain ⟨c0, -, -, c3, c4, -⟩ := h.qq.cells
  have hns8 := h.qq.ns8
  obtain ⟨n, hn⟩ : ∃ n, n = age[i] := ⟨_, rfl⟩
  rw [← hn] at hnl CN CW ⊢
  obtain ⟨q0, -⟩ := h.qq.space (k := n) (by omega)
  rw [if_pos hnl] at q0
  have CP := Lib.hid (fun (u : World) (uv : Nat → Value) (T : Nat → Nat → Tab) (L lent : List Int) (c : Nat) (h : MAt u sh uv r fb g p pm most ns T up L lent c) (hc : c ≤ 100000) => mput_at h hc hnl va frame bb hv hf1 hf2 hb)
  have HNL := Lib.hid hnl
  have hn0 : (0 : Int) ≤ (n : Int) := by omega
  have hn8 : (n : Int) < 8 := by omega
  clear h hi hil hn hnl hns8 hv hf1 hf2 hb
  go_enter Try.func32, Try.ntmps32
  go_wp2_with fail
  go_step3
  go_wp2_with fail
  refine (none_at c0).mono ?_
  rintro e y ⟨rfl, rfl⟩
  go_wp2_with fail
  go_quiet ((go_at_call 64; exact CN.out _))
  generalize hw1 : World.drewN x _ = w1
  have HW1 : Hid (Keep [] x w1) := Lib.hid (by subst hw1; exact (Keep.refl [] x).drewN _)
  clear hw1
  replace q0 := HW1.out.cell q0 (by simp)
  have HS1 := Lib.hid (HS.out.keep0 HW1.out)
  clear c0 c3 c4
  go_wp2_with fail
  refine (CP.out _ _ _ _ _ _ HS1.out.m (by omega)).mono ?_
  rintro e w2 ⟨b1, T1, L1, lent1, rfl, hPM, hM, hK⟩
  have HP := Lib.hid (And.intro hPM (And.intro hM hK))
  have HS2 := Lib.hid (HS1.out.shad HNL.out hK hM)
  clear hPM hM hK
  cases b1
  · have hT1 : T1 = T := by
      rcases HP.out.1 with ⟨_, _, h⟩ | ⟨_, h, _⟩ | ⟨_, _, _, _, h⟩
      · exact h
      · cases h
      · exact h
    subst hT1
    obtain ⟨-, -, -, c3, -, -⟩ := HS2.out.qq.cells
    obtain ⟨hgc, hgm, hga, -⟩ := HS2.out.qq.ageCell
    have hln := HS2.out.qq.len
    have hns8 := HS2.out.qq.ns8
    have CC := Lib.hid (Try.slices_Clone_int ga 0 ns gc (age.map fun k : Nat => (k : Int)) w2 (by simp; omega) (by omega) (fun j hj => by
      have hj' : j < age.length := by simpa using hj
      rw [show 0 + j = j by omega, hga j hj', List.getD_eq_getElem?_getD, List.getElem?_map, List.getElem?_eq_getElem hj']
      rfl))
    clear hgc hgm hga
    go_wp2_with fail
    go_step3
    go_wp2_with fail
    refine CC.out.mono ?_
    rintro e w3 ⟨v3, rfl, hrow, -, hbel⟩
    have hk3 : Keep [] w2 w3 := below_keep hbel (Nat.le_refl _)
    obtain ⟨a3, k3, rfl⟩ := own_form hrow
    obtain ⟨gb, rfl, hcl⟩ := own_some hrow (by omega)
    have HC3 : Hid (∀ j (hj : j < age.length), w3.cell? ⟨gb, j, none⟩ = some (.int .i64 (age[j] : Nat))) := Lib.hid (fun j hj => by
      rw [hcl j (by omega), List.getElem?_map, List.getElem?_take, if_pos (by omega), List.getElem?_map, List.getElem?_eq_getElem hj]
      rfl)
    have HS3 := Lib.hid (HS2.out.keep0 hk3)
    have HK3 := Lib.hid hk3
    have HN8 := Lib.hid (And.intro hns8 hln)
    have hn8' : ns ≤ 8 := hns8.2
    replace q0 := hk3.cell ((HS2.out.qq.space (k := n) (by have := HNL.out; omega)).1) (by simp)
    rw [if_pos HNL.out] at q0
    clear hrow hcl hbel hk3 c3 CC hln hns8
    obtain ⟨wv, hwv⟩ : ∃ wv, wv = wantB T1 up most lent1 n va frame := ⟨_, rfl⟩
    have HWV := Lib.hid hwv
    clear hwv
    go_wp2_with fail
    go_loopg [10, 42] ns (fun g dv kv wr => ∃ k : Nat, k + g = ns ∧ dv = .bool false ∧ kv = .int .i64 k ∧ Hid (Keep [] w3 wr ∧ ∀ j (hj : j < age.length), j < k → wv = false ∨ cntT (T1 age[j]) 32 = 0))
    case atStart => exact ⟨0, by omega, rfl, rfl, Lib.hid ⟨Keep.refl _ _, fun j hj q => by omega⟩⟩
    case round =>
      obtain ⟨k, hkg, rfl, rfl, HJ⟩ := hrel
      rename World => wo
      by_cases hkl : k < ns
      · have hk0 : (0 : Int) ≤ (k : Int) := by omega
        have hk3 : (k : Int) < (ns : Int) := by omega
        have hkl' : k < age.length := by have := HN8.out; omega
        have hcell := HJ.out.1.cell (HC3.out k hkl') (by simp)
        have hml := HS2.out.qq.lt _ (List.getElem_mem hkl')
        obtain ⟨mm, hmm⟩ : ∃ mm, mm = age[k] := ⟨_, rfl⟩
        rw [← hmm] at hcell hml
        have HMM : Hid (∃ h : k < age.length, mm = age[k]) := Lib.hid ⟨hkl', hmm⟩
        have HML := Lib.hid hml
        have HKG := Lib.hid (And.intro hkg hkl)
        have hgk : 0 < gk := by omega
        clear hmm hkl hkg hkl' hml
        have HWO := Lib.hid (HS3.out.keep0 HJ.out.1)
        have hm0 : (0 : Int) ≤ (mm : Int) := by omega
        have hm8 : (mm : Int) < 8 := by have := HML.out; omega
        go_wp2_with fail
        go_loopg [10] 1 (fun g dv wr => dv = .bool false ∧ Hid (Keep [] wo wr))
        case atStart => exact ⟨rfl, Lib.hid (Keep.refl _ _)⟩
        case round =>
          obtain ⟨rfl, HI⟩ := hrel
          rename World => wi
          have HWI := Lib.hid (HWO.out.keep0 HI.out)
          have C := CW.out _ _ _ _ _ HWI.out
          rw [← HWV.out] at C
          go_wp2_with fail
          refine C.mono ?_
          rintro e wj ⟨rfl, hkj⟩
          have HKJ := Lib.hid (HI.out.trans hkj)
          have HWJ := Lib.hid (HWO.out.keep0 HKJ.out)
          clear hkj C
          cases wv
          · have HNX : Hid (Keep [] w3 wj ∧ ∀ j (hj : j < age.length), j < k + 1 → false = false ∨ cntT (T1 age[j]) 32 = 0) := Lib.hid ⟨HJ.out.1.trans HKJ.out, fun j hj q => .inl rfl⟩
            clear HJ
            go_wp2_with fail
            go_roundg (ns - (k + 1))
            case rel => exact ⟨k + 1, by have := HKG.out; omega, rfl, by go_num, HNX⟩
            case measure => have := HKG.out; omega
          · obtain ⟨q1, -⟩ := HWJ.out.qq.space (k := mm) (by have := HML.out; omega)
            rw [if_pos HML.out] at q1
            have CT := Lib.hid (utables_at (HWJ.out.m.shs mm HML.out))
            obtain ⟨ct, hct⟩ : ∃ ct, ct = cntT (T1 mm) 32 := ⟨_, rfl⟩
            rw [← hct] at CT
            have HCT := Lib.hid hct
            have hct32 : ct ≤ 32 := by
              rw [hct]; unfold cntT
              have := List.length_filter_le (fun n => (T1 mm n).th) (List.range 32)
              rw [List.length_range] at this
              exact this
            clear hct
            by_cases hz : ct = 0
            · have HNX : Hid (Keep [] w3 wj ∧ ∀ j (hj : j < age.length), j < k + 1 → true = false ∨ cntT (T1 age[j]) 32 = 0) := Lib.hid ⟨HJ.out.1.trans HKJ.out, fun j hj q => by
                rcases (by omega : j < k ∨ j = k) with q | rfl
                · exact HJ.out.2 j hj q
                · obtain ⟨h, h2⟩ := HMM.out
                  right; rw [← h2, ← HCT.out, hz]⟩
              subst hz
              clear HJ
              go_wp2_with fail
              refine CT.out.mono ?_
              rintro e wk ⟨rfl, rfl⟩
              go_wp2_with fail
              go_roundg (ns - (k + 1))
              case rel => exact ⟨k + 1, by have := HKG.out; omega, rfl, by go_num, HNX⟩
              case measure => have := HKG.out; omega
            · have hzp : (0 : Int) < (ct : Int) := by omega
              have HZ := Lib.hid hz
              clear hz
              go_wp2_with fail
              refine CT.out.mono ?_
              rintro e wk ⟨rfl, rfl⟩
              clear CT
              go_wp2_with fail
              refine (mclear_at HWJ.out.m HML.out).mono ?_
              rintro e wl ⟨⟨vl, rfl⟩, HCL⟩
              obtain ⟨L4, lent4, hM4, hK4⟩ := HCL.out
              have HS4 := Lib.hid (HWJ.out.shad HML.out hK4 hM4)
              have HK4 := Lib.hid hK4
              obtain ⟨q2, -⟩ := HS4.out.qq.space (k := n) (by have := HNL.out; omega)
              rw [if_pos HNL.out] at q2
              clear hM4 hK4 HCL q1
              go_wp2_with fail
              refine (CP.out _ _ _ _ _ _ HS4.out.m (by omega)).mono ?_
              rintro e wm ⟨b5, T5, L5, lent5, rfl, hP5, hM5, hK5⟩
              have HW5 : Hid (wantB T1 up most lent1 n va frame = true) := Lib.hid HWV.out.symm
              have hb5 : b5 = true := by
                have hw := HW5.out
                unfold wantB at hw
                rw [Bool.and_eq_true, decide_eq_true_eq] at hw
                rcases hP5 with ⟨h1, _⟩ | ⟨_, h1, _⟩ | ⟨_, _, h1, _⟩
                · exfalso
                  rcases h1 with h1 | h1 | h1 | h1
                  · omega
                  · exact hw.1.2.1 h1
                  · omega
                  · omega
                · exact h1
                · exfalso
                  have hlt := HS2.out.m.inv.lent_pos HML.out (by rw [← HCT.out]; exact HZ.out) HS4.out.m.inv
                  have hle := HS2.out.m.inv.lent_le
                  have := nodup_le_int ((List.range most).map fun j : Nat => (40 : Int) + (j : Int)) lent4 (by
                    rw [List.nodup_iff_pairwise_ne, List.pairwise_map]
                    exact (List.nodup_iff_pairwise_ne.1 List.nodup_range).imp (fun h => by omega)) (fun z hz => by
                    rw [List.mem_map] at hz
                    obtain ⟨j, hj, rfl⟩ := hz
                    exact h1 j (List.mem_range.1 hj))
                  simp only [List.length_map, List.length_range] at this
                  omega
              subst hb5
              have HS5 := Lib.hid (HS4.out.shad HNL.out hK5 hM5)
              have HF : Hid (SPut (UvIn uv up ns) q r fb g p pm most ns sh T1 up lent c A age kept lost ga gc ea ec n va frame bb x (.returned (.bool true)) wm) := Lib.hid (by
                obtain ⟨hkl, hmm⟩ := HMM.out
                refine ⟨true, T5, rfl, .inr (.inr ⟨HP.out.1, rfl, ⟨L1, lent1, HS2.out.m.inv, HW5.out⟩, k, hkl, fun j hj hjk => (HJ.out.2 j hj hjk).resolve_left (by simp), by rw [← hmm, ← HCT.out]; exact HZ.out, lent4, by rw [← hmm]; exact hP5⟩), ⟨uv, L5, lent5, f, HS5.out, UvV.self _ _ _⟩, ?_⟩
                have k1 : Keep (pwl q ga g p pm ns sh) x w2 := (HW1.out.weaken (by simp)).trans (HP.out.2.2.weaken (fun k hk _ => pwl_sub HNL.out k hk))
                have k2 : Keep [] w2 wj := HK3.out.trans (HJ.out.1.trans HKJ.out)
                exact (k1.trans (k2.weaken (by simp))).trans ((HK4.out.weaken (fun k hk _ => pwl_sub HML.out k hk)).trans (hK5.weaken (fun k hk _ => pwl_sub HNL.out k hk))))
              clear hP5 hM5 hK5 HJ
              go_wp2_with fail
              try rw [Exit.noGoto_ret]
              go_ret
              exact HF.out
      · have hk3 : ¬ ((k : Int) < (ns : Int)) := by omega
        have HF : Hid (SPut (UvIn uv up ns) q r fb g p pm most ns sh T1 up lent c A age kept lost ga gc ea ec n va frame bb x (.returned (.bool false)) wo) := Lib.hid (by
          refine ⟨false, T1, rfl, .inr (.inl ⟨HP.out.1, rfl, rfl, ?_⟩), ⟨uv, L1, lent1, f, (HS3.out.keep0 HJ.out.1).more (by omega), UvV.self _ _ _⟩, ((HW1.out.weaken (by simp)).trans (HP.out.2.2.weaken (fun k hk _ => pwl_sub HNL.out k hk))).trans ((HK3.out.trans HJ.out.1).weaken (by simp))⟩
          by_cases hw : wv = false
          · exact .inl ⟨L1, lent1, HS2.out.m.inv, by rw [← HWV.out]; exact hw⟩
          · refine .inr (fun j hj => ?_)
            obtain ⟨m, hm, rfl⟩ := List.getElem_of_mem hj
            exact (HJ.out.2 m hm (by have := HN8.out; omega)).resolve_left hw)
        clear HJ hkl hkg
        go_wp2_with fail
        try rw [Exit.noGoto_ret]
        go_ret
        exact HF.out
  · have HF : Hid (SPut (UvIn uv up ns) q r fb g p pm most ns sh T up lent c A age kept lost ga gc ea ec n va frame bb x (.returned (.bool true)) w2) := Lib.hid ⟨true, T1, rfl, .inl ⟨HP.out.1, rfl⟩, ⟨uv, L1, lent1, f, HS2.out.more (by omega), UvV.self _ _ _⟩, (HW1.out.weaken (by simp)).trans (HP.out.2.2.weaken (fun k hk _ => pwl_sub HNL.out k hk))⟩
    go_wp2_with fail
    go_ret
    exact HF.out
end
end Go.Proofs.Ytpinoejckagjbaa
