/- Contracts of the functions that the law reaches, walked, and the plain laws on them (several texts in one). -/
import Derived.Deep.Cut
import Derived.Deep.CutBlock
import Derived.Test.YtgeakpeaohggoaaM21
import Derived.Test.YtgeakpeaohggoaaM17
import Derived.Test.YtgeakpeaohggoaaM18

/- The document's word on scripts and disks; what was saved, compared. -/
namespace Go.Proofs.Ytgeakpeaohggoaa
open Go.RowKit Go.Mum
set_option linter.unusedVariables false
set_option linter.unusedSimpArgs false
set_option maxRecDepth 100000

theorem errS_bad {L : List Ev} {n k : Nat} {e : Ev} (h1 : ¬ 64 < L.length) (h2 : ¬ 2048 < n) (he : L[k]? = some e) (hm : mayB e = false) : errS L n = 2 := by
  unfold errS
  rw [if_neg (by omega), if_neg]
  simp only [Bool.and_eq_true, List.all_eq_true, not_and]
  intro h
  rw [h e (List.mem_of_getElem? he)] at hm
  cases hm

theorem may_cases (e : Ev) : (decide (e.kd < 0) = true ∧ mayB e = false) ∨ (decide (e.kd < 0) = false ∧ decide (2 < e.kd) = true ∧ mayB e = false) ∨ (decide (e.kd < 0) = false ∧ decide (2 < e.kd) = false ∧ decide (e.at' < 0) = true ∧ mayB e = false) ∨
    (decide (e.kd < 0) = false ∧ decide (2 < e.kd) = false ∧ decide (e.at' < 0) = false ∧ decide (1073741824 < e.at') = true ∧ mayB e = false) ∨
    (decide (e.kd < 0) = false ∧ decide (2 < e.kd) = false ∧ decide (e.at' < 0) = false ∧ decide (1073741824 < e.at') = false ∧ (e.kd != 1) = true ∧ (e.by' != 0) = true ∧ mayB e = false) ∨
    (decide (e.kd < 0) = false ∧ decide (2 < e.kd) = false ∧ decide (e.at' < 0) = false ∧ decide (1073741824 < e.at') = false ∧ (e.kd != 1) = false ∧ mayB e = true) ∨
    (decide (e.kd < 0) = false ∧ decide (2 < e.kd) = false ∧ decide (e.at' < 0) = false ∧ decide (1073741824 < e.at') = false ∧ (e.kd != 1) = true ∧ (e.by' != 0) = false ∧ mayB e = true) := by
  have hm : (mayB e = true) ↔ (0 ≤ e.kd ∧ e.kd ≤ 2 ∧ 0 ≤ e.at' ∧ e.at' ≤ 1073741824 ∧ (e.kd = 1 ∨ e.by' = 0)) := mayB_iff e
  have hf : (mayB e = false) ↔ ¬ (0 ≤ e.kd ∧ e.kd ≤ 2 ∧ 0 ≤ e.at' ∧ e.at' ≤ 1073741824 ∧ (e.kd = 1 ∨ e.by' = 0)) := by rw [← hm]; simp
  rw [hm, hf]
  simp only [decide_eq_true_eq, decide_eq_false_iff_not, bne_iff_ne, ne_eq, bne_eq_false_iff_eq]
  omega

set_option maxHeartbeats 4000000 in
theorem ferr_at {w : World} {a a2 : Option Addr} {c n2 c2 : Nat} {L : List Ev} (h : Rd w 3 a L.length c (evsC L)) :
    Calls Try.prog 18 #[.slice a L.length c, .slice a2 n2 c2] w fun e w' => e = .returned (.int .i64 (errS L n2 : Nat)) ∧ Keep [] w w' := by
  obtain ⟨n, hnl⟩ : ∃ n, n = L.length := ⟨_, rfl⟩
  rw [← hnl] at h ⊢
  have H := Lib.hid h
  have hcap := h.cap
  clear h
  by_cases h1 : 64 < n
  · have hE : errS L n2 = 3 := by unfold errS; rw [if_pos (.inl (by omega))]
    have t1 : decide ((64 : Int) < (n : Int)) = true := decide_eq_true (by omega)
    rw [hE]
    go_enter Try.func18, Try.ntmps18
    go_wp2
    go_ret
    exact ⟨rfl, Keep.refl _ _⟩
  have t1 : decide ((64 : Int) < (n : Int)) = false := decide_eq_false (by omega)
  by_cases h2 : 2048 < n2
  · have hE : errS L n2 = 3 := by unfold errS; rw [if_pos (.inr h2)]
    have t2 : decide ((2048 : Int) < (n2 : Int)) = true := decide_eq_true (by omega)
    rw [hE]
    go_enter Try.func18, Try.ntmps18
    go_wp2
    go_ret
    exact ⟨rfl, Keep.refl _ _⟩
  have t2 : decide ((2048 : Int) < (n2 : Int)) = false := decide_eq_false (by omega)
  have HNL := Lib.hid hnl
  have td : (n2 : Int).tmod 64 = (n2 : Int) % 64 := Int.tmod_eq_emod_of_nonneg (by omega)
  obtain ⟨E, hE⟩ : ∃ E, E = errS L n2 := ⟨_, rfl⟩
  rw [← hE]
  have HE := Lib.hid hE
  clear hnl hE
  go_enter Try.func18, Try.ntmps18
  go_wp2_with fail
  go_loopw [5, 6, 15, 16, 17, 18, 19, 20, 21, 22, 23, 24, 25, 26, 27, 28, 29, 30, 31, 32, 33, 34, 35, 36, 37, 38, 39, 40, 41, 42, 43, 44, 45, 46, 47, 48, 49, 50, 51, 52] (fun i _ _ _ _ _ _ _ _ _ _ _ _ _ _ _ _ _ _ _ _ _ _ _ _ _ _ _ _ _ _ _ _ _ _ _ _ _ _ _ wr => ∃ k : Nat, k ≤ n ∧ i = .int .i64 k ∧ Hid (Keep [] w wr ∧ (L.take k).all mayB = true)) (fun i _ _ _ _ _ _ _ _ _ _ _ _ _ _ _ _ _ _ _ _ _ _ _ _ _ _ _ _ _ _ _ _ _ _ _ _ _ _ _ _ => n - (intOf i).toNat)
  case atStart => exact ⟨0, by omega, rfl, Lib.hid ⟨Keep.refl _ _, by simp⟩⟩
  case round =>
    obtain ⟨k, hk, rfl, HK⟩ := hrel
    by_cases hkn : k < n
    · have hkL : k < L.length := by rw [← HNL.out]; exact hkn
      obtain ⟨e, he⟩ : ∃ e, L[k]? = some e := ⟨L[k], by simp⟩
      obtain ⟨g1, g2, g3⟩ := evsC_get he
      obtain ⟨h0, _⟩ | ⟨b, off, rfl, hc⟩ := H.out.at'.imp (fun h => And.intro h trivial) id
      · omega
      have c0 := HK.out.1.cell (hc _ _ g1) (by simp)
      have c1 : wr.cell? ⟨b, off + k * 3 + 1, none⟩ = some (.int .i64 e.kd) := HK.out.1.cell (hc _ _ g2) (by simp)
      have c2' : wr.cell? ⟨b, off + k * 3 + 2, none⟩ = some (.int .u8 e.by') := HK.out.1.cell (hc _ _ g3) (by simp)
      have fz : ∀ cs t i, (wr.alloc (.cells cs t)).frozen? ⟨wr.heap.size, i, none⟩ = false := fun cs t i => frozen_of (heap_alloc_at _ rfl) i
      have t3 : decide ((k : Int) < (n : Int)) = true := decide_eq_true (by omega)
      have w1 : IntKind.i64.wrap ((k : Int) + 1) = (k : Int) + 1 := by rw [IntKind.wrap_i64]; omega
      have HEV := Lib.hid he
      clear g1 g2 g3 hc hkL he
      have bad : mayB e = false → E = 2 := fun hm => by rw [HE.out]; exact errS_bad (by rw [← HNL.out]; exact h1) h2 HEV.out hm
      have good : mayB e = true → (L.take (k + 1)).all mayB = true := fun hm => by rw [List.take_add_one, HEV.out, List.all_append, HK.out.2]; simp [hm]
      have BG := Lib.hid (And.intro bad good)
      clear bad good
      have hcs := may_cases e
      rcases hcs with ⟨b0, hm⟩ | ⟨b0, b1, hm⟩ | ⟨b0, b1, b2, hm⟩ | ⟨b0, b1, b2, b3, hm⟩ | ⟨b0, b1, b2, b3, b4, b5, hm⟩ | ⟨b0, b1, b2, b3, b4, hm⟩ | ⟨b0, b1, b2, b3, b4, b5, hm⟩
      iterate 5
        · have h2 := BG.out.1 hm
          subst h2
          go_wp2_with fail
          go_ret
          exact ⟨rfl, HK.out.1.alloc _⟩
      all_goals
        have hg := Lib.hid (BG.out.2 hm)
        clear hm
        go_wp2_with fail
        go_roundw
        case rel => exact ⟨k + 1, by omega, by go_num, Lib.hid ⟨HK.out.1.alloc _, hg.out⟩⟩
        case measure => simp [intOf]; omega
    · obtain rfl : k = n := by omega
      have t3 : decide ((k : Int) < (k : Int)) = false := decide_eq_false (by omega)
      have hall : L.all mayB = true := by have := HK.out.2; rwa [HNL.out, List.take_length] at this
      have hfin : E = if n2 % 64 = 0 then 0 else 2 := by
        rw [HE.out]
        unfold errS
        rw [if_neg (by have := HNL.out; omega), hall]
        by_cases hz : n2 % 64 = 0 <;> simp [hz]
      by_cases hz : n2 % 64 = 0
      · have t4 : ((n2 : Int) % 64 != 0) = false := by simp; omega
        have t4' : (n2 : Int) % 64 = 0 := by omega
        rw [if_pos hz] at hfin
        subst hfin
        go_wp2
        go_ret
        exact ⟨rfl, HK.out.1⟩
      · have t4 : ((n2 : Int) % 64 != 0) = true := by simp; omega
        have t4' : ((n2 : Int) % 64 == 0) = false := by simp; omega
        rw [if_neg hz] at hfin
        subst hfin
        go_wp2
        go_ret
        exact ⟨rfl, HK.out.1⟩

/-- The rows of what was saved. -/
structure SvR (w : World) (A : Array Value) (s : DS) (oa da qa sa : Option Addr) (oc dc qc scc : Nat) (kd fr tz : Nat) : Prop where
  v : SvV A (.slice oa s.out.length oc) (.slice da s.disk.length dc) (.slice qa s.queue.length qc) (.slice sa s.script.length scc) s.bits s.mask s.bk s.ad s.st kd fr tz
  hO : Row w oa oc s.out
  hD : Row w da dc s.disk
  hQ : Row w qa qc s.queue
  hL : Rd w 3 sa s.script.length scc (evsC s.script)

theorem SvR.keep0 {w x : World} {A : Array Value} {s : DS} {oa da qa sa : Option Addr} {oc dc qc scc : Nat} {kd fr tz : Nat} (h : SvR w A s oa da qa sa oc dc qc scc kd fr tz) (hk : Keep [] w x) : SvR x A s oa da qa sa oc dc qc scc kd fr tz :=
  ⟨h.v, h.hO.keep0 hk, h.hD.keep0 hk, h.hQ.keep0 hk, h.hL.keep0 hk⟩

set_option maxHeartbeats 4000000 in
theorem saved_yes {w : World} {A B : Array Value} {s : DS} {oa da qa sa oa' da' qa' sa' : Option Addr} {oc dc qc scc oc' dc' qc' scc' : Nat} {kd fr tz : Nat} (h : SvR w A s oa da qa sa oc dc qc scc kd fr tz) (h' : SvR w B s oa' da' qa' sa' oc' dc' qc' scc' kd fr tz) (hn : s.script.length ≤ 64) :
    Calls Try.prog 19 #[.agg A, .agg B] w fun e w' => e = .returned (.bool true) ∧ Keep [] w w' := by
  obtain ⟨n1, hn1⟩ : ∃ n, n = w.heap.size := ⟨_, rfl⟩
  have HN1 := Lib.hid hn1
  have H := Lib.hid (And.intro h h')
  clear h h'
  go_enter Try.func19, Try.ntmps19
  go_upto_region 1 with fail
  rw [← hn1]
  generalize hy : World.alloc (World.alloc w _) _ = y
  have hA : y.heap[n1]? = some (.cells A 47 (0, 0)) := by subst hy; exact heap_alloc_other _ (heap_alloc_at _ hn1)
  have hB : y.heap[n1 + 1]? = some (.cells B 47 (0, 0)) := by subst hy; exact heap_alloc_at _ (by simp [hn1])
  have KY : Hid (Keep [] w y) := Lib.hid (by subst hy; exact ((Keep.refl [] w).alloc _).alloc _)
  clear hy hn1
  have HY := Lib.hid (And.intro hA hB)
  obtain ⟨-, -, -, a26, -⟩ := H.out.1.v.heap hA
  obtain ⟨-, -, -, b26, -⟩ := H.out.2.v.heap hB
  obtain ⟨n, hnl⟩ : ∃ n, n = s.script.length := ⟨_, rfl⟩
  rw [← hnl] at a26 b26 hn
  have HNL := Lib.hid hnl
  clear hA hB hnl
  go_wp2_with fail
  go_loopw [5, 13, 14, 15, 16, 17, 18, 19, 20, 21, 22, 23, 24, 25, 26, 27, 28, 29, 30] (fun i _ _ _ _ _ _ _ _ _ _ _ _ _ _ _ _ _ _ wr => ∃ k : Nat, k ≤ n ∧ i = .int .i64 k ∧ Hid (Keep [] y wr)) (fun i _ _ _ _ _ _ _ _ _ _ _ _ _ _ _ _ _ _ _ => n - (intOf i).toNat)
  case atStart => exact ⟨0, by omega, rfl, Lib.hid (Keep.refl _ _)⟩
  case round =>
    obtain ⟨k, hk, rfl, HK⟩ := hrel
    obtain ⟨c23, c24, c25, c26, c27, c28, c29, c30, c31, c32, c33, c34⟩ := H.out.1.v.heap (HK.out.heap HY.out.1 (by simp))
    obtain ⟨d23, d24, d25, d26, d27, d28, d29, d30, d31, d32, d33, d34⟩ := H.out.2.v.heap (HK.out.heap HY.out.2 (by simp))
    rw [← HNL.out] at c26 d26
    by_cases hkn : k < n
    · obtain ⟨e, he⟩ : ∃ e, s.script[k]? = some e := ⟨s.script[k]'(by rw [← HNL.out]; exact hkn), by simp⟩
      obtain ⟨g1, g2, g3⟩ := evsC_get he
      obtain h0 | ⟨b, off, rfl, hc⟩ := H.out.1.hL.at'
      · have := HNL.out; omega
      obtain h0 | ⟨b', off', rfl, hc'⟩ := H.out.2.hL.at'
      · have := HNL.out; omega
      have kw := KY.out.trans HK.out
      have x0 := kw.cell (hc _ _ g1) (by simp)
      have x1 : wr.cell? ⟨b, off + k * 3 + 1, none⟩ = some (.int .i64 e.kd) := kw.cell (hc _ _ g2) (by simp)
      have x2 : wr.cell? ⟨b, off + k * 3 + 2, none⟩ = some (.int .u8 e.by') := kw.cell (hc _ _ g3) (by simp)
      have y0 := kw.cell (hc' _ _ g1) (by simp)
      have y1 : wr.cell? ⟨b', off' + k * 3 + 1, none⟩ = some (.int .i64 e.kd) := kw.cell (hc' _ _ g2) (by simp)
      have y2 : wr.cell? ⟨b', off' + k * 3 + 2, none⟩ = some (.int .u8 e.by') := kw.cell (hc' _ _ g3) (by simp)
      have t3 : decide ((k : Int) < (n : Int)) = true := decide_eq_true (by omega)
      clear he g1 g2 g3 hc hc' kw
      go_wp2_with fail
      go_quiet (fail)
      go_wp2_with fail
      go_roundw
      case rel => exact ⟨k + 1, by omega, by go_num, Lib.hid (HK.out.drewN _)⟩
      case measure => simp [intOf]; omega
    · have t3 : decide ((k : Int) < (n : Int)) = false := decide_eq_false (by omega)
      have kw := KY.out.trans HK.out
      have str : ∀ {a : Option Addr} {c : Nat} {M : List Int}, Row w a c M → (convert 22 9 (.slice a M.length c)).run Try.prog wr = .ok (.string (strOfNums M)) wr := fun hr => run_string (P := Try.prog) Try.underlying22 Try.underlying5 (hr.keep0 kw) _ rfl _ Try.underlying9
      have s1 := str H.out.1.hO
      have s2 := str H.out.2.hO
      have s3 := str H.out.1.hD
      have s4 := str H.out.2.hD
      have s5 := str H.out.1.hQ
      have s6 := str H.out.2.hQ
      have HF := Lib.hid kw
      clear str kw
      go_wp2_with fail
      go_ret
      exact ⟨rfl, HF.out⟩

end Go.Proofs.Ytgeakpeaohggoaa

/- Devices, a memory and the document's memory, as a statement has made them. -/
namespace Go.Proofs.Ytgeakpeaohggoaa
open Go.RowKit Go.Mum
set_option linter.unusedVariables false
set_option linter.unusedSimpArgs false
set_option maxRecDepth 100000

/-- What hangs on the blocks G alone. -/
def Fr (R : World → Prop) (G : List Nat) : Prop := ∀ x y l, R x → Keep l x y → (∀ j ∈ l, j ∉ G) → R y

/-- All is newer than w0; R is said of other blocks, G. -/
def DQ (w0 W : World) (b : Nat) (s : DS) (r fb g n : Nat) (L : List Int) (R : World → Prop) (G : List Nat) : Prop :=
  ∃ F, DM W b F s r fb g n L ∧ R W ∧ (∀ j ∈ G, j ∉ F ∧ j ≠ g ∧ j < W.heap.size) ∧ Keep [] w0 W ∧ (∀ k ∈ F, w0.heap.size ≤ k) ∧ w0.heap.size ≤ g

section
variable {w0 W x : World} {b : Nat} {s s' : DS} {r fb g n : Nat} {L L' : List Int} {R : World → Prop} {G : List Nat}

theorem DQ.keep0 (hR : Fr R G) (h : DQ w0 W b s r fb g n L R G) (hk : Keep [] W x) : DQ w0 x b s r fb g n L R G := by
  obtain ⟨F, h1, h2, h3, h5, h6⟩ := h
  have := hk.size
  exact ⟨F, h1.keep0 hk, hR _ _ _ h2 hk (by simp), fun j hj => ⟨(h3 j hj).1, (h3 j hj).2.1, by have := (h3 j hj).2.2; omega⟩, h5.trans hk, h6⟩

theorem DQ.kp (h : DQ w0 W b s r fb g n L R G) : Keep [] w0 W := by
  obtain ⟨F, h1, h2, h3, h5, h6⟩ := h
  exact h5

theorem DQ.ok (h : DQ w0 W b s r fb g n L R G) : s.Ok := by
  obtain ⟨F, h1, h2, h3, h5, h6⟩ := h
  exact h1.dv.ok

theorem DQ.mb (h : DQ w0 W b s r fb g n L R G) : IsBytes L ∧ L.length = 64 * n := by
  obtain ⟨F, h1, h2, h3, h5, h6⟩ := h
  exact ⟨h1.mem.bytes, h1.len⟩

theorem DQ.other (h : DQ w0 W b s r fb g n L R G) : R W := by
  obtain ⟨F, h1, h2, h3, h5, h6⟩ := h
  exact h2

theorem DQ.of {F F' : List Nat} {l : List Nat} (hR : Fr R G) (h1 : DM W b F s r fb g n L) (h2 : R W) (h3 : ∀ j ∈ G, j ∉ F ∧ j ≠ g ∧ j < W.heap.size) (h5 : Keep [] w0 W) (h6 : (∀ k ∈ F, w0.heap.size ≤ k) ∧ w0.heap.size ≤ g)
    (hd : DM x b F' s' r fb g n L') (hk : Keep l W x) (hl : ∀ j ∈ l, j ∈ F ∨ j = g) (hf : ∀ j ∈ F', j ∈ F ∨ W.heap.size ≤ j) : DQ w0 x b s' r fb g n L' R G := by
  have hs := h5.size
  have hks := hk.size
  refine ⟨F', hd, hR _ _ _ h2 hk (fun j hj hm => ?_), fun j hj => ⟨fun hm => ?_, (h3 j hj).2.1, by have := (h3 j hj).2.2; omega⟩, h5.then hk (fun j hj hlt => ?_), fun k hk => (hf k hk).elim (h6.1 k) (fun h => by omega), h6.2⟩
  · rcases hl j hj with h | h
    · exact (h3 j hm).1 h
    · exact (h3 j hm).2.1 h
  · rcases hf j hm with h | h
    · exact (h3 j hj).1 h
    · have := (h3 j hj).2.2; omega
  · rcases hl j hj with h | h
    · have := h6.1 j h; omega
    · have := h6.2; omega

/-- The other blocks turn. -/
theorem DQ.turn {R' : World → Prop} {G' l : List Nat} (h : DQ w0 W b s r fb g n L R G) (hk : Keep l W x) (hl : ∀ j ∈ l, j ∈ G ∧ w0.heap.size ≤ j) (hr : r ∉ G ∧ fb ∉ G) (hx : R' x) (hG : ∀ j ∈ G', j ∈ G ∨ (W.heap.size ≤ j ∧ j < x.heap.size)) : DQ w0 x b s r fb g n L R' G' := by
  obtain ⟨F, h1, h2, h3, h5, h6⟩ := h
  have hks := hk.size
  have nF : ∀ k, k ∈ F → k ∉ l := fun k hk hm => (h3 k (hl k hm).1).1 hk
  have ng : g ∉ l := fun hm => (h3 g (hl g hm).1).2.1 rfl
  have hlt := h1.mem.lt.2.2
  refine ⟨F, ⟨h1.dv.keep hk nF, h1.mem.keep hk (fun hm => hr.1 (hl _ hm).1) (fun hm => hr.2 (hl _ hm).1) ng, h1.len, h1.ap⟩, hx, fun j hj => ?_, h5.then hk (fun j hj hlt => by have := (hl j hj).2; omega), h6⟩
  rcases hG j hj with h | h
  · exact ⟨(h3 j h).1, (h3 j h).2.1, by have := (h3 j h).2.2; omega⟩
  · exact ⟨fun hm => by have := h1.dv.lt j hm; omega, by omega, h.2⟩

theorem dq_write (hR : Fr R G) (h : DQ w0 W b s r fb g n L R G) (p : Int) (v : Nat) (hv : v < 4294967296) (ho : s.out.length < 1073741824) :
    Calls Try.prog 22 #[.pointer (some ⟨b, 0, none⟩), .int .i64 p, .int .u32 (v : Nat)] W fun e w' => (∃ u, e = .returned u) ∧ DQ w0 w' b (writeS s p v) r fb g n L R G := by
  obtain ⟨F, h1, h2, h3, h5, h6⟩ := h
  refine (dwrite_at h1.dv p v hv ho).mono ?_
  rintro e w' ⟨hu, hd⟩
  obtain ⟨F', hd', hk, hf⟩ := h1.to hd
  exact ⟨hu, DQ.of hR h1 h2 h3 h5 h6 hd' hk (fun j hj => .inl hj) hf⟩

theorem dq_taken (hR : Fr R G) (h : DQ w0 W b s r fb g n L R G) (c : Int) :
    Calls Try.prog 27 #[.pointer (some ⟨b, 0, none⟩), .int .i64 c] W fun e w' => (∃ u, e = .returned u) ∧ DQ w0 w' b (takenS s c) r fb g n L R G := by
  obtain ⟨F, h1, h2, h3, h5, h6⟩ := h
  refine (dtaken_at h1.dv c).mono ?_
  rintro e w' ⟨hu, hd⟩
  obtain ⟨F', hd', hk, hf⟩ := h1.to hd
  exact ⟨hu, DQ.of hR h1 h2 h3 h5 h6 hd' hk (fun j hj => .inl hj) hf⟩

theorem dq_read (hR : Fr R G) (h : DQ w0 W b s r fb g n L R G) (p : Int) :
    Calls Try.prog 14 #[.pointer (some ⟨b, 0, none⟩), .int .i64 p] W fun e w' => e = .returned (.int .u32 (inS s p)) ∧ DQ w0 w' b (readS s p) r fb g n L R G := by
  obtain ⟨F, h1, h2, h3, h5, h6⟩ := h
  refine (dread_at h1.dv p).mono ?_
  rintro e w' ⟨hu, hd⟩
  obtain ⟨F', hd', hk, hf⟩ := h1.to hd
  exact ⟨hu, DQ.of hR h1 h2 h3 h5 h6 hd' hk (fun j hj => .inl hj) hf⟩

theorem dq_in (h : DQ w0 W b s r fb g n L R G) (p : Int) :
    Calls Try.prog 13 #[.pointer (some ⟨b, 0, none⟩), .int .i64 p] W fun e w' => e = .returned (.int .u32 (inS s p)) ∧ w' = W := by
  obtain ⟨F, h1, h2, h3, h5, h6⟩ := h
  exact din_at h1.dv p

theorem dq_come (hR : Fr R G) (h : DQ w0 W b s r fb g n L R G) (step : Int) (hst : -9223372036854775808 ≤ step ∧ step ≤ 9223372036854775807) :
    Calls Try.prog 12 #[.pointer (some ⟨b, 0, none⟩), .int .i64 step, .pointer (some ⟨r, 0, none⟩)] W fun e w' =>
      ∃ v fv, e = .returned (.tuple #[v, fv]) ∧ Buf w' 25 3 v (cntD step s.script) (evsC ((s.script.take (cntD step s.script)).map (lateE · step))) ∧
        Buf w' 3 1 fv (comeM n s L (cntD step s.script)).fs.length (i64s (comeM n s L (cntD step s.script)).fs) ∧ (comeM n s L (cntD step s.script)).fs.length ≤ 1 ∧
        DQ w0 w' b (comeM n s L (cntD step s.script)).s r fb g n (comeM n s L (cntD step s.script)).L R G := by
  obtain ⟨F, h1, h2, h3, h5, h6⟩ := h
  refine (come_mem h1 step hst).mono ?_
  rintro e w' ⟨v, fv, rfl, hb, hbk, hfv, hone, F', hd, hk, hf, hn⟩
  exact ⟨v, fv, rfl, hb, hfv, hone, DQ.of hR h1 h2 h3 h5 h6 hd hk (fun j hj => (List.mem_cons.1 hj).symm) hf⟩

theorem dq_disk (h : DQ w0 W b s r fb g n L R G) :
    Calls Try.prog 25 #[.pointer (some ⟨b, 0, none⟩)] W fun e w' => ∃ v, e = .returned v ∧ Buf w' 5 1 v s.disk.length (u8s s.disk) ∧ Keep [] W w' := by
  obtain ⟨F, h1, h2, h3, h5, h6⟩ := h
  refine (ddisk_at h1.dv).mono ?_
  rintro e w' ⟨v, rfl, hb, hk, _⟩
  exact ⟨v, rfl, hb, hk⟩

/-- A frame of the memory, and of the document's. -/
theorem dq_frame (h : DQ w0 W b s r fb g n L R G) (k : Nat) (hk : k < n) :
    Calls Try.prog 24 #[.pointer (some ⟨r, 0, none⟩), .int .i64 (k : Nat)] W fun e w' => ∃ a c, e = .returned (.slice a 64 c) ∧ Row w' a c ((L.drop (64 * k)).take 64) ∧ Keep [] W w' := by
  obtain ⟨F, h1, h2, h3, h5, h6⟩ := h
  refine (rframe_yes h1.mem k (by rw [List.length_range]; exact hk)).mono ?_
  rintro e w' hp
  obtain ⟨a, c, rfl, hr, hkp⟩ := rowPost_own hp
  rw [frameOf_range L hk] at hr ⊢
  have hl : ((L.drop (64 * k)).take 64).length = 64 := by rw [List.length_take, List.length_drop, h1.len]; omega
  exact ⟨a, c, by rw [hl], hr, hkp⟩

theorem ref_frame {q : Nat} {Lq : List Int} (h2 : W.heap[q]? = some (.cells (u8s Lq).toArray 5 (0, 0))) (hb : IsBytes Lq) (hl : Lq.length = 64 * n) (hn : n ≤ 512) (k : Nat) (hk : k < n) :
    Calls Try.prog 23 #[.agg #[.slice (some ⟨q, 0, none⟩) (64 * n) (64 * n)], .int .i64 (k : Nat)] W fun e w' => ∃ a c, e = .returned (.slice a 64 c) ∧ Row w' a c ((Lq.drop (64 * k)).take 64) ∧ Keep [] W w' := by
  have hr : RefAt W (some ⟨q, 0, none⟩) Lq := ⟨.inr ⟨q, rfl, h2⟩, hb, by omega⟩
  have C := fframe_yes hr k (by omega)
  rw [hl] at C
  refine C.mono ?_
  rintro e w' ⟨a, c, rfl, hrow, hkp⟩
  have hl2 : ((Lq.drop (64 * k)).take 64).length = 64 := by rw [List.length_take, List.length_drop, hl]; omega
  exact ⟨a, c, by rw [hl2], hrow, hkp⟩

/-- A memory and the document's are made beside devices. -/
theorem dq_make {F : List Nat} {q : Nat} (hd : DvAt W b F s) (hk : Keep [] w0 W) (hF : ∀ k ∈ F, w0.heap.size ≤ k) (hB : Both x r fb g q 5 memL) (hk2 : Keep [] W x) (hr : W.heap.size ≤ r) (hfb : W.heap.size ≤ fb) (hg : W.heap.size ≤ g) (hq : W.heap.size ≤ q) :
    DQ w0 x b s r fb g 5 memL (fun z => z.heap[q]? = some (.cells (u8s memL).toArray 5 (0, 0))) [q] ∧ r ≠ q ∧ fb ≠ q := by
  have hs := hk.size
  have hlt := hd.lt
  refine ⟨⟨F, ⟨hd.keep0 hk2, hB.ram, hB.len, fun hm => ?_, fun hm => ?_, fun hm => ?_⟩, hB.qd, fun j hj => ?_, hk.trans hk2, hF, by omega⟩, fun h => hB.qs.1 h.symm, fun h => hB.qs.2.1 h.symm⟩
  · have := hlt _ hm; omega
  · have := hlt _ hm; omega
  · have := hlt _ hm; omega
  · simp only [List.mem_cons, List.not_mem_nil, or_false] at hj
    subst hj
    exact ⟨fun hm => by have := hlt _ hm; omega, hB.qs.2.2, lt_of_heap hB.qd⟩
end

end Go.Proofs.Ytgeakpeaohggoaa
