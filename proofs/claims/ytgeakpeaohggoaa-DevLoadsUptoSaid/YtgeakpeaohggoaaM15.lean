/- Contracts of the functions that the law reaches, walked, and the plain laws on them (several texts in one). -/
import Derived.Deep.Cut
import Derived.Deep.CutBlock
import Derived.Test.YtgeakpeaohggoaaM14

/- The document's word on scripts and disks; what was saved, compared. -/
namespace Go.Proofs.Ytgeakpeaohggoaa
open Go.RowKit Go.Mum
set_option linter.unusedVariables false
set_option linter.unusedSimpArgs false
set_option maxRecDepth 100000

theorem errS_bad {L : List Ev} {n k : Nat} {e : Ev} (h1 : ¬ 64 < L.length) (h2 : ¬ 2048 < n) (he : L[k]? = some e) (hm : mayB e = false) : errS L n = 2 := by
  unfold errS
  rw [if_neg (by omega), if_neg]
  simp only [Bool.and_eq_true, List.all_eq_true, not_and]
  intro h
  rw [h e (List.mem_of_getElem? he)] at hm
  cases hm

theorem may_cases (e : Ev) : (decide (e.kd < 0) = true ∧ mayB e = false) ∨ (decide (e.kd < 0) = false ∧ decide (2 < e.kd) = true ∧ mayB e = false) ∨ (decide (e.kd < 0) = false ∧ decide (2 < e.kd) = false ∧ decide (e.at' < 0) = true ∧ mayB e = false) ∨
    (decide (e.kd < 0) = false ∧ decide (2 < e.kd) = false ∧ decide (e.at' < 0) = false ∧ decide (1073741824 < e.at') = true ∧ mayB e = false) ∨
    (decide (e.kd < 0) = false ∧ decide (2 < e.kd) = false ∧ decide (e.at' < 0) = false ∧ decide (1073741824 < e.at') = false ∧ (e.kd != 1) = true ∧ (e.by' != 0) = true ∧ mayB e = false) ∨
    (decide (e.kd < 0) = false ∧ decide (2 < e.kd) = false ∧ decide (e.at' < 0) = false ∧ decide (1073741824 < e.at') = false ∧ (e.kd != 1) = false ∧ mayB e = true) ∨
    (decide (e.kd < 0) = false ∧ decide (2 < e.kd) = false ∧ decide (e.at' < 0) = false ∧ decide (1073741824 < e.at') = false ∧ (e.kd != 1) = true ∧ (e.by' != 0) = false ∧ mayB e = true) := by
  have hm : (mayB e = true) ↔ (0 ≤ e.kd ∧ e.kd ≤ 2 ∧ 0 ≤ e.at' ∧ e.at' ≤ 1073741824 ∧ (e.kd = 1 ∨ e.by' = 0)) := mayB_iff e
  have hf : (mayB e = false) ↔ ¬ (0 ≤ e.kd ∧ e.kd ≤ 2 ∧ 0 ≤ e.at' ∧ e.at' ≤ 1073741824 ∧ (e.kd = 1 ∨ e.by' = 0)) := by rw [← hm]; simp
  rw [hm, hf]
  simp only [decide_eq_true_eq, decide_eq_false_iff_not, bne_iff_ne, ne_eq, bne_eq_false_iff_eq]
  omega

set_option maxHeartbeats 4000000 in
theorem ferr_at {w : World} {a a2 : Option Addr} {c n2 c2 : Nat} {L : List Ev} (h : Rd w 3 a L.length c (evsC L)) :
    Calls Try.prog 18 #[.slice a L.length c, .slice a2 n2 c2] w fun e w' => e = .returned (.int .i64 (errS L n2 : Nat)) ∧ Keep [] w w' := by
  obtain ⟨n, hnl⟩ : ∃ n, n = L.length := ⟨_, rfl⟩
  rw [← hnl] at h ⊢
  have H := Lib.hid h
  have hcap := h.cap
  clear h
  by_cases h1 : 64 < n
  · have hE : errS L n2 = 3 := by unfold errS; rw [if_pos (.inl (by omega))]
    have t1 : decide ((64 : Int) < (n : Int)) = true := decide_eq_true (by omega)
    rw [hE]
    go_enter Try.func18, Try.ntmps18
    go_wp2
    go_ret
    exact ⟨rfl, Keep.refl _ _⟩
  have t1 : decide ((64 : Int) < (n : Int)) = false := decide_eq_false (by omega)
  by_cases h2 : 2048 < n2
  · have hE : errS L n2 = 3 := by unfold errS; rw [if_pos (.inr h2)]
    have t2 : decide ((2048 : Int) < (n2 : Int)) = true := decide_eq_true (by omega)
    rw [hE]
    go_enter Try.func18, Try.ntmps18
    go_wp2
    go_ret
    exact ⟨rfl, Keep.refl _ _⟩
  have t2 : decide ((2048 : Int) < (n2 : Int)) = false := decide_eq_false (by omega)
  have HNL := Lib.hid hnl
  have td : (n2 : Int).tmod 64 = (n2 : Int) % 64 := Int.tmod_eq_emod_of_nonneg (by omega)
  obtain ⟨E, hE⟩ : ∃ E, E = errS L n2 := ⟨_, rfl⟩
  rw [← hE]
  have HE := Lib.hid hE
  clear hnl hE
  go_enter Try.func18, Try.ntmps18
  go_wp2_with fail
  go_loopw [5, 6, 15, 16, 17, 18, 19, 20, 21, 22, 23, 24, 25, 26, 27, 28, 29, 30, 31, 32, 33, 34, 35, 36, 37, 38, 39, 40, 41, 42, 43, 44, 45, 46, 47, 48, 49, 50, 51, 52] (fun i _ _ _ _ _ _ _ _ _ _ _ _ _ _ _ _ _ _ _ _ _ _ _ _ _ _ _ _ _ _ _ _ _ _ _ _ _ _ _ wr => ∃ k : Nat, k ≤ n ∧ i = .int .i64 k ∧ Hid (Keep [] w wr ∧ (L.take k).all mayB = true)) (fun i _ _ _ _ _ _ _ _ _ _ _ _ _ _ _ _ _ _ _ _ _ _ _ _ _ _ _ _ _ _ _ _ _ _ _ _ _ _ _ _ => n - (intOf i).toNat)
  case atStart => exact ⟨0, by omega, rfl, Lib.hid ⟨Keep.refl _ _, by simp⟩⟩
  case round =>
    obtain ⟨k, hk, rfl, HK⟩ := hrel
    by_cases hkn : k < n
    · have hkL : k < L.length := by rw [← HNL.out]; exact hkn
      obtain ⟨e, he⟩ : ∃ e, L[k]? = some e := ⟨L[k], by simp⟩
      obtain ⟨g1, g2, g3⟩ := evsC_get he
      obtain ⟨h0, _⟩ | ⟨b, off, rfl, hc⟩ := H.out.at'.imp (fun h => And.intro h trivial) id
      · omega
      have c0 := HK.out.1.cell (hc _ _ g1) (by simp)
      have c1 : wr.cell? ⟨b, off + k * 3 + 1, none⟩ = some (.int .i64 e.kd) := HK.out.1.cell (hc _ _ g2) (by simp)
      have c2' : wr.cell? ⟨b, off + k * 3 + 2, none⟩ = some (.int .u8 e.by') := HK.out.1.cell (hc _ _ g3) (by simp)
      have fz : ∀ cs t i, (wr.alloc (.cells cs t)).frozen? ⟨wr.heap.size, i, none⟩ = false := fun cs t i => frozen_of (heap_alloc_at _ rfl) i
      have t3 : decide ((k : Int) < (n : Int)) = true := decide_eq_true (by omega)
      have w1 : IntKind.i64.wrap ((k : Int) + 1) = (k : Int) + 1 := by rw [IntKind.wrap_i64]; omega
      have HEV := Lib.hid he
      clear g1 g2 g3 hc hkL he
      have bad : mayB e = false → E = 2 := fun hm => by rw [HE.out]; exact errS_bad (by rw [← HNL.out]; exact h1) h2 HEV.out hm
      have good : mayB e = true → (L.take (k + 1)).all mayB = true := fun hm => by rw [List.take_add_one, HEV.out, List.all_append, HK.out.2]; simp [hm]
      have BG := Lib.hid (And.intro bad good)
      clear bad good
      have hcs := may_cases e
      rcases hcs with ⟨b0, hm⟩ | ⟨b0, b1, hm⟩ | ⟨b0, b1, b2, hm⟩ | ⟨b0, b1, b2, b3, hm⟩ | ⟨b0, b1, b2, b3, b4, b5, hm⟩ | ⟨b0, b1, b2, b3, b4, hm⟩ | ⟨b0, b1, b2, b3, b4, b5, hm⟩
      iterate 5
        · have h2 := BG.out.1 hm
          subst h2
          go_wp2_with fail
          go_ret
          exact ⟨rfl, HK.out.1.alloc _⟩
      all_goals
        have hg := Lib.hid (BG.out.2 hm)
        clear hm
        go_wp2_with fail
        go_roundw
        case rel => exact ⟨k + 1, by omega, by go_num, Lib.hid ⟨HK.out.1.alloc _, hg.out⟩⟩
        case measure => simp [intOf]; omega
    · obtain rfl : k = n := by omega
      have t3 : decide ((k : Int) < (k : Int)) = false := decide_eq_false (by omega)
      have hall : L.all mayB = true := by have := HK.out.2; rwa [HNL.out, List.take_length] at this
      have hfin : E = if n2 % 64 = 0 then 0 else 2 := by
        rw [HE.out]
        unfold errS
        rw [if_neg (by have := HNL.out; omega), hall]
        by_cases hz : n2 % 64 = 0 <;> simp [hz]
      by_cases hz : n2 % 64 = 0
      · have t4 : ((n2 : Int) % 64 != 0) = false := by simp; omega
        have t4' : (n2 : Int) % 64 = 0 := by omega
        rw [if_pos hz] at hfin
        subst hfin
        go_wp2
        go_ret
        exact ⟨rfl, HK.out.1⟩
      · have t4 : ((n2 : Int) % 64 != 0) = true := by simp; omega
        have t4' : ((n2 : Int) % 64 == 0) = false := by simp; omega
        rw [if_neg hz] at hfin
        subst hfin
        go_wp2
        go_ret
        exact ⟨rfl, HK.out.1⟩

/-- The rows of what was saved. -/
structure SvR (w : World) (A : Array Value) (s : DS) (oa da qa sa : Option Addr) (oc dc qc scc : Nat) (kd fr tz : Nat) : Prop where
  v : SvV A (.slice oa s.out.length oc) (.slice da s.disk.length dc) (.slice qa s.queue.length qc) (.slice sa s.script.length scc) s.bits s.mask s.bk s.ad s.st kd fr tz
  hO : Row w oa oc s.out
  hD : Row w da dc s.disk
  hQ : Row w qa qc s.queue
  hL : Rd w 3 sa s.script.length scc (evsC s.script)

theorem SvR.keep0 {w x : World} {A : Array Value} {s : DS} {oa da qa sa : Option Addr} {oc dc qc scc : Nat} {kd fr tz : Nat} (h : SvR w A s oa da qa sa oc dc qc scc kd fr tz) (hk : Keep [] w x) : SvR x A s oa da qa sa oc dc qc scc kd fr tz :=
  ⟨h.v, h.hO.keep0 hk, h.hD.keep0 hk, h.hQ.keep0 hk, h.hL.keep0 hk⟩

set_option maxHeartbeats 4000000 in
theorem saved_yes {w : World} {A B : Array Value} {s : DS} {oa da qa sa oa' da' qa' sa' : Option Addr} {oc dc qc scc oc' dc' qc' scc' : Nat} {kd fr tz : Nat} (h : SvR w A s oa da qa sa oc dc qc scc kd fr tz) (h' : SvR w B s oa' da' qa' sa' oc' dc' qc' scc' kd fr tz) (hn : s.script.length ≤ 64) :
    Calls Try.prog 19 #[.agg A, .agg B] w fun e w' => e = .returned (.bool true) ∧ Keep [] w w' := by
  obtain ⟨n1, hn1⟩ : ∃ n, n = w.heap.size := ⟨_, rfl⟩
  have HN1 := Lib.hid hn1
  have H := Lib.hid (And.intro h h')
  clear h h'
  go_enter Try.func19, Try.ntmps19
  go_upto_region 1 with fail
  rw [← hn1]
  generalize hy : World.alloc (World.alloc w _) _ = y
  have hA : y.heap[n1]? = some (.cells A 47 (0, 0)) := by subst hy; exact heap_alloc_other _ (heap_alloc_at _ hn1)
  have hB : y.heap[n1 + 1]? = some (.cells B 47 (0, 0)) := by subst hy; exact heap_alloc_at _ (by simp [hn1])
  have KY : Hid (Keep [] w y) := Lib.hid (by subst hy; exact ((Keep.refl [] w).alloc _).alloc _)
  clear hy hn1
  have HY := Lib.hid (And.intro hA hB)
  obtain ⟨-, -, -, a26, -⟩ := H.out.1.v.heap hA
  obtain ⟨-, -, -, b26, -⟩ := H.out.2.v.heap hB
  obtain ⟨n, hnl⟩ : ∃ n, n = s.script.length := ⟨_, rfl⟩
  rw [← hnl] at a26 b26 hn
  have HNL := Lib.hid hnl
  clear hA hB hnl
  go_wp2_with fail
  go_loopw [5, 13, 14, 15, 16, 17, 18, 19, 20, 21, 22, 23, 24, 25, 26, 27, 28, 29, 30] (fun i _ _ _ _ _ _ _ _ _ _ _ _ _ _ _ _ _ _ wr => ∃ k : Nat, k ≤ n ∧ i = .int .i64 k ∧ Hid (Keep [] y wr)) (fun i _ _ _ _ _ _ _ _ _ _ _ _ _ _ _ _ _ _ _ => n - (intOf i).toNat)
  case atStart => exact ⟨0, by omega, rfl, Lib.hid (Keep.refl _ _)⟩
  case round =>
    obtain ⟨k, hk, rfl, HK⟩ := hrel
    obtain ⟨c23, c24, c25, c26, c27, c28, c29, c30, c31, c32, c33, c34⟩ := H.out.1.v.heap (HK.out.heap HY.out.1 (by simp))
    obtain ⟨d23, d24, d25, d26, d27, d28, d29, d30, d31, d32, d33, d34⟩ := H.out.2.v.heap (HK.out.heap HY.out.2 (by simp))
    rw [← HNL.out] at c26 d26
    by_cases hkn : k < n
    · obtain ⟨e, he⟩ : ∃ e, s.script[k]? = some e := ⟨s.script[k]'(by rw [← HNL.out]; exact hkn), by simp⟩
      obtain ⟨g1, g2, g3⟩ := evsC_get he
      obtain h0 | ⟨b, off, rfl, hc⟩ := H.out.1.hL.at'
      · have := HNL.out; omega
      obtain h0 | ⟨b', off', rfl, hc'⟩ := H.out.2.hL.at'
      · have := HNL.out; omega
      have kw := KY.out.trans HK.out
      have x0 := kw.cell (hc _ _ g1) (by simp)
      have x1 : wr.cell? ⟨b, off + k * 3 + 1, none⟩ = some (.int .i64 e.kd) := kw.cell (hc _ _ g2) (by simp)
      have x2 : wr.cell? ⟨b, off + k * 3 + 2, none⟩ = some (.int .u8 e.by') := kw.cell (hc _ _ g3) (by simp)
      have y0 := kw.cell (hc' _ _ g1) (by simp)
      have y1 : wr.cell? ⟨b', off' + k * 3 + 1, none⟩ = some (.int .i64 e.kd) := kw.cell (hc' _ _ g2) (by simp)
      have y2 : wr.cell? ⟨b', off' + k * 3 + 2, none⟩ = some (.int .u8 e.by') := kw.cell (hc' _ _ g3) (by simp)
      have t3 : decide ((k : Int) < (n : Int)) = true := decide_eq_true (by omega)
      clear he g1 g2 g3 hc hc' kw
      go_wp2_with fail
      go_quiet (fail)
      go_wp2_with fail
      go_roundw
      case rel => exact ⟨k + 1, by omega, by go_num, Lib.hid (HK.out.drewN _)⟩
      case measure => simp [intOf]; omega
    · have t3 : decide ((k : Int) < (n : Int)) = false := decide_eq_false (by omega)
      have kw := KY.out.trans HK.out
      have str : ∀ {a : Option Addr} {c : Nat} {M : List Int}, Row w a c M → (convert 22 9 (.slice a M.length c)).run Try.prog wr = .ok (.string (strOfNums M)) wr := fun hr => run_string (P := Try.prog) Try.underlying22 Try.underlying5 (hr.keep0 kw) _ rfl _ Try.underlying9
      have s1 := str H.out.1.hO
      have s2 := str H.out.2.hO
      have s3 := str H.out.1.hD
      have s4 := str H.out.2.hD
      have s5 := str H.out.1.hQ
      have s6 := str H.out.2.hQ
      have HF := Lib.hid kw
      clear str kw
      go_wp2_with fail
      go_ret
      exact ⟨rfl, HF.out⟩

end Go.Proofs.Ytgeakpeaohggoaa
