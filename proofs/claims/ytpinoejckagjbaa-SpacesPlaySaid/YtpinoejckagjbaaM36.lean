/- Contracts of the functions that the law reaches, walked, and the plain laws on them (several texts in one). -/
import Derived.Laws.StructEq
import Derived.Outline
import Derived.Test.YtpinoejckagjbaaM35

/- The document's spaces: one selected. -/
namespace Go.Proofs.Ytpinoejckagjbaa
open Go.RowKit Go.Mum
set_option linter.unusedVariables false
set_option linter.unusedSimpArgs false
set_option maxRecDepth 100000

/-- A space that is taken anew. -/
def RSt.take (R : RSt) (a kp kr : Nat) (up : Bool) : RSt := { tk := updN R.tk a true, ur := updN R.ur a up, kp := updN R.kp a kp, kr := updN R.kr a kr, pv := updN R.pv a (.slice none 0 0), tv := updN R.tv a (.slice none 0 0), mf := R.mf, P := updN R.P a [], S := updN R.S a [] }

/-- Whose space is it? -/
def keyB (R : RSt) (kp kr : Nat) (k : Nat) : Bool := R.tk k && (R.kp k == kp && R.kr k == kr)

def SelF (R : RSt) (age : List Nat) (kp kr : Nat) (up : Bool) (b : Bool) (R' : RSt) (age' : List Nat) : Prop :=
  (∃ (i : Nat) (hi : i < age.length), keyB R kp kr age[i] = true ∧ (∀ j (hj : j < age.length), j < i → keyB R kp kr age[j] = false) ∧ b = true ∧ R' = R ∧ age' = youngL age age[i]) ∨
  ((∀ j ∈ age, keyB R kp kr j = false) ∧ b = false ∧ ∃ h0 : 0 < age.length, age' = youngL age age[0] ∧ R' = R.take age[0] kp kr up)

def RfSel (B rb most : Nat) (R : RSt) (age : List Nat) (ga c kp kr : Nat) (up : Bool) (x : World) (e : Ending) (y : World) : Prop :=
  ∃ b R' age' ga' ca' hv', e = .returned (.bool b) ∧ SelF R age kp kr up b R' age' ∧ RcAt y B rb most R' age' true ga' ca' hv' c ∧ KeepTo (RcW R age rb ga) x y ∧ x.heap.size ≤ ga' ∧ TvSub x.heap.size R age R' age'

theorem key_eql (a b c d : Nat) (w : World) : (binOp .eql 70 (.agg #[.int .u32 (a : Nat), .int .u32 (b : Nat)]) (.agg #[.int .u32 (c : Nat), .int .u32 (d : Nat)])).run Try.prog w = .ok (.bool (a == c && b == d)) w := by
  rw [run_eql_struct, run_equalIn_struct w 9999 70 _ _ (by kernel_rfl) (by kernel_rfl)]
  have hf : (Try.prog.fieldsOf 70).toList.map (fun f => (decide (f.name ≠ "_"), f.type, f.offset)) = [(true, 22, 0), (true, 22, 1)] := by kernel_rfl
  generalize (Try.prog.fieldsOf 70).toList = fs at hf
  have hlen : fs.length = 2 := by simpa using congrArg List.length hf
  match fs, hlen with
  | [f, g], _ =>
  simp only [List.map_cons, List.map_nil, List.cons.injEq, Prod.mk.injEq, and_true, decide_eq_true_eq] at hf
  obtain ⟨⟨n1, t1, o1⟩, n2, t2, o2⟩ := hf
  have p1 : ∀ (x y : Nat) (w : World), (part 22 #[.int .u32 (x : Nat), .int .u32 (y : Nat)] 0).run Try.prog w = .ok (.int .u32 (x : Nat)) w := fun x y w => by kernel_rfl
  have p2 : ∀ (x y : Nat) (w : World), (part 22 #[.int .u32 (x : Nat), .int .u32 (y : Nat)] 1).run Try.prog w = .ok (.int .u32 (y : Nat)) w := fun x y w => by kernel_rfl
  have e1 : ∀ (x y : Nat) (w : World), (Op.equalIn 9999 22 (.int .u32 (x : Nat)) (.int .u32 (y : Nat))).run Try.prog w = .ok (x == y) w := fun x y w => by
    rw [run_equalIn_int w 9998 22 .u32 .u32 _ _ Try.underlying22]
    congr 1
    rw [Bool.eq_iff_iff]
    simp
    omega
  cases h1 : (a == c) <;> cases h2 : (b == d) <;> simp [Op.eqFields, n1, n2, t1, t2, o1, o2, p1, p2, e1, h1, h2, Result.andThen]
theorem youngL_last {age : List Nat} (hn : age.Nodup) {a : Nat} (ha : a ∈ age) {i : Nat} (hi : i + 1 = age.length) (hi' : i < (youngL age a).length) : (youngL age a)[i] = a := by
  have hl := youngL_len hn ha
  unfold youngL at hl
  rw [List.length_append] at hl
  simp only [List.length_singleton] at hl
  have h : (youngL age a)[i]? = some a := by
    unfold youngL
    rw [List.getElem?_append_right (by omega), show i - (age.filter fun q => decide (q ≠ a)).length = 0 by omega]
    rfl
  exact (List.getElem?_eq_some_iff.1 h).2

theorem RcAt.reall {x y : World} {B rb most : Nat} {R : RSt} {age : List Nat} {use : Bool} {ga ca : Nat} {hv : Value} {c : Nat} (h : RcAt x B rb most R age use ga ca hv c) (R' : RSt) (hpv : R'.pv = R.pv) (htv : R'.tv = R.tv) (hP : R'.P = R.P) (hS : R'.S = R.S) (hK : Keep [ga] x y) {f' : Nat → Value} (harr : ArrAt y ga 145 (ca * 8) f') (hca : age.length ≤ ca) (hmx : ca ≤ maxLen)
    (hf' : ∀ i' (hi' : i' < age.length) j, j < 8 → f' (i' * 8 + j) = (spC R' age[i']).getD j undef) : RcAt y B rb most R' age use ga ca hv c := by
  obtain ⟨cg, hcg⟩ := own_type h.all (g := ga) rfl
  have hgaB := (own_block h.all (g := ga) rfl).1
  have nl : ∀ {g : Nat} {cu : Array Value} {e : TypeId}, x.heap[g]? = some (.cells cu e (0, 0)) → e ≠ 145 → g ∉ [ga] := fun {g cu e} hg h1 q => by
    simp only [List.mem_singleton] at q
    subst q
    exact type_ne hg hcg h1 rfl
  have hall : y.ownsRow B 145 8 (.slice (some ⟨ga, 0, none⟩) age.length ca) age.length (spL R' age) := own_of_arr harr hgaB hca hmx (spL_len _ _) (fun j hj => by
    have := hf' (j / 8) (by omega) (j % 8) (by omega)
    rw [← spL_at _ age (by omega) (by omega), show j / 8 * 8 + j % 8 = j by omega] at this
    exact this)
  refine ⟨hK.heap h.head (nl h.head (by decide)), h.rbB, hall, own_keep h.home hK (fun g hg => ?_), h.nd, fun k hkm => ?_, fun k hkm => ?_, by rw [hpv]; exact h.pd, by rw [htv]; exact h.td, by rw [hP]; exact h.pl, by rw [hS]; exact h.sl, h.al⟩
  · obtain ⟨cu, hcu⟩ := own_type h.home hg
    exact nl hcu (by decide)
  · rw [hpv, hP]
    exact own_keep (h.prow k hkm) hK (fun g hg => by obtain ⟨cu, hcu⟩ := own_type (h.prow k hkm) hg; exact nl hcu (by decide))
  · rw [htv, hS]
    exact own_keep (h.trow k hkm) hK (fun g hg => by obtain ⟨cu, hcu⟩ := own_type (h.trow k hkm) hg; exact nl hcu (by decide))

set_option maxHeartbeats 4000000 in
theorem rfselect_at {x : World} {B rb most : Nat} {R : RSt} {age : List Nat} {use : Bool} {ga ca : Nat} {hv : Value} {c : Nat} (h : RcAt x B rb most R age use ga ca hv c) (kp kr : Nat) (up : Bool) :
    Calls Try.prog 37 #[.pointer (some ⟨rb, 0, none⟩), .agg #[.int .u32 kp, .int .u32 kr], .bool up] x (RfSel B rb most R age ga c kp kr up x) := by
  have HR := Lib.hid h
  have hal := h.al
  obtain ⟨n, hn⟩ : ∃ n, n = age.length := ⟨_, rfl⟩
  have HN := Lib.hid hn
  have hn8 : n ≤ 8 := by omega
  obtain ⟨bx, hbx⟩ : ∃ b, b = x.heap.size := ⟨_, rfl⟩
  clear h
  go_enter Try.func37, Try.ntmps37
  go_wp2_with fail
  rw [← hbx]
  generalize hy : World.alloc x _ = y
  have H0 : Hid (Keep [] x y ∧ y.heap[bx]? = some (.cells #[.int .u32 kp, .int .u32 kr] 70 (0, 0)) ∧ bx = x.heap.size) := Lib.hid (by
    subst hy
    exact ⟨(Keep.refl _ _).alloc _, heap_alloc_at _ hbx, hbx⟩)
  clear hy hbx
  have k0 : y.cell? ⟨bx, 0, none⟩ = some (.int .u32 kp) := cell_of H0.out.2.1 0 rfl
  have k1 : y.cell? ⟨bx, 1, none⟩ = some (.int .u32 kr) := cell_of H0.out.2.1 1 rfl
  obtain ⟨c0, c1, c2, c3, c4⟩ := (HR.out.keep0 H0.out.1).cells
  rw [← hn] at c0
  go_loopw [7] (fun kv wr => ∃ k : Nat, kv = .int .i64 k ∧ k ≤ n ∧ Hid (Keep [] y wr ∧ ∀ j (hj : j < age.length), j < k → keyB R kp kr age[j] = false)) (fun kv _ => n - (intOf kv).toNat)
  case atStart => exact ⟨0, rfl, by omega, Lib.hid ⟨Keep.refl _ _, fun j hj q => by omega⟩⟩
  case round =>
    obtain ⟨k, rfl, hk1, HJ⟩ := hrel
    rename World => wo
    have hkw := HJ.out.1
    replace c0 := hkw.cell c0 (by simp)
    replace k0 := hkw.cell k0 (by simp)
    replace k1 := hkw.cell k1 (by simp)
    clear c1 c2 c3 c4
    by_cases hkl : k < n
    · have hkl' : k < age.length := by omega
      have hk0 : (0 : Int) ≤ (k : Int) := by omega
      have hk3 : (k : Int) < (n : Int) := by omega
      have hR := HR.out.keep0 (H0.out.1.trans hkw)
      have q0 := hR.cell hkl' (j := 0) (by omega)
      have q1 := hR.cell hkl' (j := 1) (by omega)
      have q2 := hR.cell hkl' (j := 2) (by omega)
      obtain ⟨ak, hak⟩ : ∃ z, z = age[k] := ⟨_, rfl⟩
      rw [← hak] at q0 q1 q2
      have HAK := Lib.hid hak
      replace q0 : wo.cell? ⟨ga, k * 8, none⟩ = some (.bool (R.tk ak)) := q0
      replace q1 : wo.cell? ⟨ga, k * 8 + 1, none⟩ = some (.int .u32 (R.kp ak : Nat)) := q1
      replace q2 : wo.cell? ⟨ga, k * 8 + 2, none⟩ = some (.int .u32 (R.kr ak : Nat)) := q2
      have HLT := Lib.hid hkl
      clear hR hak hkw hal
      cases htk : R.tk ak
      · rw [htk] at q0
        have HJ2 : Hid (∀ d, Keep [] y (wo.drewN d) ∧ ∀ j (hj : j < age.length), j < k + 1 → keyB R kp kr age[j] = false) := Lib.hid (fun d => ⟨HJ.out.1.drewN d, fun j hj q => by
          rcases (by omega : j < k ∨ j = k) with q | rfl
          · exact HJ.out.2 j hj q
          · rw [← HAK.out]; unfold keyB; rw [htk]; rfl⟩)
        clear htk hkl hk1 hn
        go_wp2_with fail
        go_quiet (fail)
        go_wp2_with fail
        go_roundw
        case rel => exact ⟨k + 1, by go_num, by have := HLT.out; omega, Lib.hid (HJ2.out _)⟩
        case measure => simp [intOf]; have := HLT.out; omega
      · rw [htk] at q0
        have hke := key_eql (R.kp ak) (R.kr ak) kp kr
        have HB : Hid (keyB R kp kr ak = (R.kp ak == kp && R.kr ak == kr)) := Lib.hid (by unfold keyB; rw [htk]; rfl)
        cases hkb : (R.kp ak == kp && R.kr ak == kr)
        · rw [hkb] at hke
          have HJ2 : Hid (∀ d, Keep [] y (wo.drewN d) ∧ ∀ j (hj : j < age.length), j < k + 1 → keyB R kp kr age[j] = false) := Lib.hid (fun d => ⟨HJ.out.1.drewN d, fun j hj q => by
            rcases (by omega : j < k ∨ j = k) with q | rfl
            · exact HJ.out.2 j hj q
            · rw [← HAK.out, HB.out, hkb]⟩)
          clear htk hkl hk1 hn hkb
          go_wp2_with fail
          go_quiet (fail)
          go_wp2_with fail
          go_roundw
          case rel => exact ⟨k + 1, by go_num, by have := HLT.out; omega, Lib.hid (HJ2.out _)⟩
          case measure => simp [intOf]; have := HLT.out; omega
        · rw [hkb] at hke
          have HKB : Hid (keyB R kp kr ak = true) := Lib.hid (by rw [HB.out, hkb])
          clear htk hkl hk1 hn hkb
          go_wp2_with fail
          go_quiet (fail)
          go_wp2_with fail
          generalize hw2 : World.drewN wo _ = w2
          have HW2 : Hid (Keep [] x w2) := Lib.hid (by subst hw2; exact H0.out.1.trans (HJ.out.1.drewN _))
          clear hw2
          refine (rfyoung_at (HR.out.keep0 HW2.out) hkl').mono ?_
          rintro e z ⟨⟨v, rfl⟩, ga', ca', hv', hRz, hkz, hgz⟩
          have HF : Hid (RfSel B rb most R age ga c kp kr up x (.returned (.bool true)) z) := Lib.hid ⟨true, R, _, ga', ca', hv', rfl, .inl ⟨k, hkl', by rw [← HAK.out]; exact HKB.out, HJ.out.2, rfl, rfl, rfl⟩, hRz, (Keep.upTo HW2.out (by simp)).chain (Keep.upTo (P := fun k => k = rb) hkz (by simp)) (fun k q => .inl (.inl q)), Nat.le_trans HW2.out.size hgz, by
            have ham := List.getElem_mem hkl'
            exact fun j hj g hg => .inl ⟨j, (youngL_mem ham j).1 hj, hg⟩⟩
          clear hRz hkz hgz
          go_wp2_with fail
          go_ret
          exact HF.out
    · have hk3 : ¬ ((k : Int) < (n : Int)) := by omega
      have h0n : 0 < age.length := by omega
      have HNO : Hid (∀ j ∈ age, keyB R kp kr j = false) := Lib.hid (fun j hj => by
        obtain ⟨m, hm', rfl⟩ := List.getElem_of_mem hj
        exact HJ.out.2 m hm' (by omega))
      have C0 := Lib.hid (rfyoung_at (HR.out.keep0 (H0.out.1.trans hkw)) h0n)
      have HKW := Lib.hid hkw
      obtain ⟨i, hi⟩ : ∃ i, i + 1 = n := ⟨n - 1, by omega⟩
      clear hkl hk1 hkw hal hn
      go_wp2_with fail
      refine C0.out.mono ?_
      rintro e z ⟨⟨v, rfl⟩, ga', ca', hv', hRz, hkz, hgz⟩
      have hn := HN.out
      have hi : i + 1 = age.length := by omega
      have hyl := youngL_len HR.out.nd (List.getElem_mem h0n)
      have hil : i < (youngL age age[0]).length := by omega
      have hlast := youngL_last HR.out.nd (List.getElem_mem h0n) hi hil
      have HZ := Lib.hid (And.intro hRz (And.intro (Keep.upTo (P := fun k => k = rb) hkz (by simp)) hgz))
      have HL := Lib.hid hlast
      obtain ⟨d0, d1, d2, d3, d4⟩ := hRz.cells
      rw [hyl, ← hn] at d0
      have hrbx : bx ≠ rb := by
        have h1 := lt_of_heap HR.out.head
        have h2 := H0.out.2.2
        omega
      have l0 := hkz.cell k0 (by simpa using hrbx)
      have l1 := hkz.cell k1 (by simpa using hrbx)
      have hbg : bx ≠ ga' := by
        obtain ⟨cg, hcg⟩ := own_type hRz.all (g := ga') rfl
        exact type_ne (hkz.heap (HKW.out.heap H0.out.2.1 (by simp)) (by simpa using hrbx)) hcg (by decide)
      have hbg' : ga' ≠ bx := fun q => hbg q.symm
      have w1 : IntKind.i64.wrap (i : Int) = (i : Int) := IntWalk.i64_in _ (by omega)
      have w1' : (n : Int) - 1 = (i : Int) := by omega
      have hi0 : (0 : Int) ≤ (i : Int) := by omega
      have hi1 : (i : Int) < (n : Int) := by omega
      have hq0 := hRz.cell hil (j := 0) (by omega)
      have hq1 := hRz.cell hil (j := 1) (by omega)
      have hq2 := hRz.cell hil (j := 2) (by omega)
      have hq3 := hRz.cell hil (j := 3) (by omega)
      obtain ⟨f, hS, hf, hca, hmx⟩ := hRz.one hil
      rw [hlast] at hq0 hq1 hq2 hq3 hS
      obtain ⟨a, ha⟩ : ∃ a, a = age[0] := ⟨_, rfl⟩
      rw [← ha] at hq0 hq1 hq2 hq3 hS
      have HA := Lib.hid ha
      replace hq0 : z.cell? ⟨ga', i * 8, none⟩ = some (.bool (R.tk a)) := hq0
      replace hq1 : z.cell? ⟨ga', i * 8 + 1, none⟩ = some (.int .u32 (R.kp a : Nat)) := hq1
      replace hq2 : z.cell? ⟨ga', i * 8 + 2, none⟩ = some (.int .u32 (R.kr a : Nat)) := hq2
      replace hq3 : z.cell? ⟨ga', i * 8 + 3, none⟩ = some (.bool (R.ur a)) := hq3
      have HS := Lib.hid (And.intro hS (And.intro hf (And.intro hca hmx)))
      have HI := Lib.hid (And.intro hil hyl)
      clear hRz hkz hgz hS hf hca hmx k0 k1 c0 d1 d2 d3 d4 hyl hi ha hlast hn
      go_wp2_with fail
      go_quiet (fail)
      generalize hz2 : World.drewN z _ = z2
      have HZ2 : Hid (Keep [] z z2) := Lib.hid (by subst hz2; exact (Keep.refl [] z).drewN _)
      replace d0 := HZ2.out.cell d0 (by simp)
      replace l0 := HZ2.out.cell l0 (by simp)
      replace l1 := HZ2.out.cell l1 (by simp)
      replace hq0 := HZ2.out.cell hq0 (by simp)
      replace hq1 := HZ2.out.cell hq1 (by simp)
      replace hq2 := HZ2.out.cell hq2 (by simp)
      replace hq3 := HZ2.out.cell hq3 (by simp)
      have hfz : ∀ j, z2.frozen? ⟨ga', j, none⟩ = false := fun j => ArrAt.frozen (HS.out.1.keep0 HZ2.out).arr j
      have z0 := hfz (i * 8)
      have z1 := hfz (i * 8 + 1)
      have z2' := hfz (i * 8 + 2)
      have z3 := hfz (i * 8 + 3)
      have HCL : Hid (∀ w', w' = (((z2.setCell ⟨ga', i * 8, none⟩ (.bool true)).setCell ⟨ga', i * 8 + 1, none⟩ (.int .u32 kp)).setCell ⟨ga', i * 8 + 2, none⟩ (.int .u32 kr)).setCell ⟨ga', i * 8 + 3, none⟩ (.bool up) → RSI w' B ga' (i * 8 + 4) 145 (ca' * 8) (fset (fset (fset (fset f (i * 8) (.bool true)) (i * 8 + 1) (.int .u32 kp)) (i * 8 + 2) (.int .u32 kr)) (i * 8 + 3) (.bool up)) (R.mf a) (R.P a) (R.S a) (R.pv a) (R.tv a) ∧ Keep [ga'] z w') := Lib.hid (fun w' hw => by
        have hS := HS.out.1.keep0 HZ2.out
        have hks : Keep [ga'] z2 w' := by rw [hw]; exact keepSet (keepSet (keepSet (keepSet (Keep.refl _ _) (by simp) _ _) (by simp) _ _) (by simp) _ _) (by simp) _ _
        have harr : ArrAt w' ga' 145 (ca' * 8) (fset (fset (fset (fset f (i * 8) (.bool true)) (i * 8 + 1) (.int .u32 kp)) (i * 8 + 2) (.int .u32 kr)) (i * 8 + 3) (.bool up)) := by rw [hw]; exact ArrAt.set (ArrAt.set (ArrAt.set (ArrAt.set hS.arr _ _) _ _) _ _) _ _
        refine ⟨⟨harr, hS.hn, Nat.le_trans hS.hB hks.size, ?_, ?_, ?_, ?_, own_keep hS.prow hks (fun g hg => ?_), own_keep hS.trow hks (fun g hg => ?_), hS.nep, hS.net⟩, (HZ2.out.weaken (by simp)).trans hks⟩
        · rw [fset_ne (by omega), fset_ne (by omega), fset_ne (by omega), fset_ne (by omega), hS.v0]
        · rw [fset_ne (by omega), fset_ne (by omega), fset_ne (by omega), fset_ne (by omega), hS.v1]
        · rw [fset_ne (by omega), fset_ne (by omega), fset_ne (by omega), fset_ne (by omega), hS.v2]
        · rw [fset_ne (by omega), fset_ne (by omega), fset_ne (by omega), fset_ne (by omega), hS.v3]
        · simp only [List.mem_singleton]; rintro rfl; exact hS.nep hg
        · simp only [List.mem_singleton]; rintro rfl; exact hS.net hg)
      clear hz2 hfz
      go_wp2_with fail
      generalize hw3 : World.setCell _ _ _ = w3
      have hRS := HCL.out w3 hw3.symm
      have HRS := Lib.hid hRS
      clear hw3 d0 l0 l1 hq0 hq1 hq2 hq3 z0 z1 z2' z3 HCL
      refine (riclear_at hRS.1).mono ?_
      rintro e w4 ⟨⟨v4, rfl⟩, hRI, hk4⟩
      have HF : Hid (RfSel B rb most R age ga c kp kr up x (.returned (.bool false)) w4) := Lib.hid (by
        have h0n : 0 < age.length := h0n
        have hgaB : B ≤ ga' := (own_block HZ.out.1.all (g := ga') rfl).1
        have hlast : (youngL age age[0])[i] = a := by rw [HL.out, ← HA.out]
        refine ⟨false, R.take a kp kr up, youngL age age[0], ga', ca', hv', rfl, .inr ⟨HNO.out, rfl, h0n, rfl, by rw [← HA.out]⟩, ?_, ?_, Nat.le_trans (H0.out.1.trans HKW.out).size HZ.out.2.2, fun j hj g hg => ?_⟩
        rotate_left
        · have hs : x.heap.size ≤ ga' := Nat.le_trans (H0.out.1.trans HKW.out).size HZ.out.2.2
          exact ((Keep.upTo (P := RcW R age rb ga) (H0.out.1.trans HKW.out) (by simp)).chain HZ.out.2.1 (fun k q => .inl (.inl q))).chain ((Keep.upTo (P := fun k => k = ga') HRS.out.2 (by simp)).trans (Keep.upTo hk4 (by simp))) (fun k q => .inr (by rw [q]; exact hs))
        · have ham : age[0] ∈ age := List.getElem_mem h0n
          by_cases hja : j = a
          · subst hja
            have h1 : (updN R.tv j (.slice none 0 0) j).ownBlock = some g := hg
            rw [updN_same] at h1
            cases h1
          · have h1 : (updN R.tv a (.slice none 0 0) j).ownBlock = some g := hg
            rw [updN_ne hja] at h1
            exact .inl ⟨j, (youngL_mem ham j).1 hj, h1⟩
        obtain ⟨R1, hR1⟩ : ∃ R1 : RSt, R1 = { R with tk := updN R.tk a true, ur := updN R.ur a up, kp := updN R.kp a kp, kr := updN R.kr a kr } := ⟨_, rfl⟩
        have hnd := HZ.out.1.nd
        have hsame : spC R1 a = [.bool true, .int .u32 (kp : Nat), .int .u32 (kr : Nat), .bool up, .int .i64 60, R.pv a, R.tv a, .int .i64 (R.mf a)] := by
          rw [hR1]; unfold spC; simp only [updN_same]
        have hne : ∀ k, k ≠ a → spC R1 k = spC R k := fun k hk => by
          rw [hR1]; unfold spC; simp only [updN_ne hk]
        obtain ⟨f3, hf3d⟩ : ∃ f3, f3 = fset (fset (fset (fset f (i * 8) (.bool true)) (i * 8 + 1) (.int .u32 kp)) (i * 8 + 2) (.int .u32 kr)) (i * 8 + 3) (.bool up) := ⟨_, rfl⟩
        have hS3 := HRS.out.1
        have hRI3 := hRI
        rw [← hf3d] at hS3
        rw [← hf3d] at hRI3
        have hf3 : ∀ i' (hi' : i' < (youngL age age[0]).length) j, j < 8 → f3 (i' * 8 + j) = (spC R1 (youngL age age[0])[i']).getD j undef := fun i' hi' j hj => by
          by_cases he : i' = i
          · subst he
            rw [hlast, hsame]
            rcases (by omega : j = 0 ∨ j = 1 ∨ j = 2 ∨ j = 3 ∨ j = 4 ∨ j = 5 ∨ j = 6 ∨ j = 7) with rfl | rfl | rfl | rfl | rfl | rfl | rfl | rfl
            · rw [hf3d, fset_ne (by omega), fset_ne (by omega), fset_ne (by omega)]; exact fset_same
            · rw [hf3d, fset_ne (by omega), fset_ne (by omega)]; exact fset_same
            · rw [hf3d, fset_ne (by omega)]; exact fset_same
            · rw [hf3d]; exact fset_same
            · exact hS3.v0
            · exact hS3.v1
            · exact hS3.v2
            · exact hS3.v3
          · rw [hf3d, fset_ne (by omega), fset_ne (by omega), fset_ne (by omega), fset_ne (by omega), HS.out.2.1 _ (by omega), spL_at R _ hi' hj, hne _ (fun q => he (nodup_inj hnd hi' hil (by rw [q, hlast])))]
        have hRa := HZ.out.1.reall R1 (by rw [hR1]) (by rw [hR1]) (by rw [hR1]) (by rw [hR1]) HRS.out.2 hS3.arr HS.out.2.2.1 HS.out.2.2.2 hf3
        have hlast' : (youngL age age[0])[i] = a := hlast
        have hRb := hRa.back hil (f := f3) (fun j hj => by
          have := hf3 (j / 8) (by omega) (j % 8) (by omega)
          rw [← spL_at _ _ (by omega) (by omega), show j / 8 * 8 + j % 8 = j by omega] at this
          exact this) HS.out.2.2.1 HS.out.2.2.2 hRI3 (fun j h5 h6 h7 => by rw [fset_ne (by omega), fset_ne (by omega)]) (Keep.upTo hk4 (by simp)) (fun g hg => by cases hg) (fun g hg => by cases hg) (Nat.le_refl _) (by simp) (by simp)
        rw [hlast'] at hRb
        have hfin : R1.put a [] [] (.slice none 0 0) (.slice none 0 0) (R.mf a) = R.take a kp kr up := by
          rw [hR1]
          unfold RSt.put RSt.take
          simp only [upd_self]
        rw [hfin] at hRb
        exact hRb)
      clear hRS hRI hk4
      go_wp2_with fail
      go_ret
      exact HF.out
end Go.Proofs.Ytpinoejckagjbaa
