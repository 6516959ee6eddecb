/- Contracts of the functions that the law reaches, walked, and the plain laws on them (several texts in one). -/
import Derived.Test.YtpinoejckagjbaaM25
import Derived.Test.YtpinoejckagjbaaM26

/- Several shadows in one memory, as they lie: what each call leaves. -/
namespace Go.Proofs.Ytpinoejckagjbaa
open Go.RowKit Go.Mum
set_option linter.unusedVariables false
set_option linter.unusedSimpArgs false
set_option maxRecDepth 100000

theorem lookM {most ns : Nat} {T : Nat → Nat → Tab} {up : Nat → Bool} {L lent : List Int} (h : MInv most ns T up L lent) {k : Nat} (hk : k < ns) (va : Nat) :
    (leads (T k) va = 0 ∧ lookF (rdOf 60 L) 60 (64 * (20 + 2 * k)) 32 va = none) ∨
    ∃ f b, f < 60 ∧ b < 16 ∧ b % 2 = 1 ∧ leads (T k) va = 64 * f + b ∧ ∃ e d t, lookF (rdOf 60 L) 60 (64 * (20 + 2 * k)) 32 va = some (b, 64 * f + va % 64, e, d, t, f) := by
  have hns := h.nsb
  have hm := h.mst
  have hrd : ∀ a, a % 4 = 0 ∧ a + 4 ≤ 3840 → rdOf 60 L a = some (word4 L a).toNat := fun a ha => by
    unfold rdOf
    rw [if_pos (layB_yes (by omega))]
  by_cases hv : 32 ≤ va / 1024
  · left
    unfold leads lookF
    rw [if_neg (by omega), if_pos hv]
    exact ⟨rfl, rfl⟩
  · have hd : dirAt (64 * (20 + 2 * k)) va = 64 * (20 + 2 * k) + 4 * (va / 1024) := by unfold dirAt; omega
    have hw := h.dirw k hk (va / 1024) (by omega)
    cases ht : (T k (va / 1024)).th with
    | false =>
      left
      have hue := upE_le (up k) (va / 1024)
      have hx : lookF (rdOf 60 L) 60 (64 * (20 + 2 * k)) 32 va = none := by
        unfold lookF
        rw [if_neg hv, hd, hrd _ ⟨by omega, by omega⟩, hw, ht]
        simp only [Bool.false_eq_true, if_false, Int.toNat_natCast]
        generalize upE (up k) (va / 1024) = ue at hue
        by_cases he : ue % 2 = 0
        · rw [if_pos he]
        · have ht2 : tabAt ue va = ue / 64 * 64 + 4 * (va / 64 % 16) := rfl
          rw [if_neg he, ht2, hrd _ ⟨by omega, by omega⟩, h.low _ (by omega)]
          rfl
      refine ⟨?_, hx⟩
      unfold leads
      rw [ht]
      simp
    | true =>
      have hf := h.frm k hk _ (by omega) ht
      have htw := h.tabw k hk _ (by omega) ht (va / 64 % 16) (by omega)
      have hx : lookF (rdOf 60 L) 60 (64 * (20 + 2 * k)) 32 va = (if (T k (va / 1024)).en (va / 64 % 16) % 2 = 0 then none else if 64 * 60 ≤ endAt ((T k (va / 1024)).en (va / 64 % 16)) va then none else some (refBits (64 * (T k (va / 1024)).fr + 7) ((T k (va / 1024)).en (va / 64 % 16)), endAt ((T k (va / 1024)).en (va / 64 % 16)) va, tabAt (64 * (T k (va / 1024)).fr + 7) va, dirAt (64 * (20 + 2 * k)) va / 64, tabAt (64 * (T k (va / 1024)).fr + 7) va / 64, endAt ((T k (va / 1024)).en (va / 64 % 16)) va / 64)) := by
        have ht2 : tabAt (64 * (T k (va / 1024)).fr + 7) va = 64 * (T k (va / 1024)).fr + 4 * (va / 64 % 16) := by unfold tabAt; omega
        unfold lookF
        rw [if_neg hv]
        conv => lhs; rw [hd, hrd _ ⟨by omega, by omega⟩, hw, ht]
        simp only [if_true, Int.toNat_natCast]
        rw [if_neg (by omega), ht2, hrd _ ⟨by omega, by omega⟩, htw]
        simp only [Int.toNat_natCast]
        rw [hd]
      have hle : leads (T k) va = (T k (va / 1024)).en (va / 64 % 16) := by
        unfold leads
        rw [if_pos ⟨by omega, ht⟩]
      have hg := h.ent k hk (va / 1024) (by omega) (va / 64 % 16) (by omega)
      rw [hx, hle]
      clear htw hx hle
      generalize (T k (va / 1024)).en (va / 64 % 16) = y at hg ⊢
      rcases hg with rfl | ⟨f, b, h1, h2, h3, rfl⟩
      · left; exact ⟨rfl, rfl⟩
      · right
        refine ⟨f, b, h1, h2, h3, rfl, ?_⟩
        have e1 : endAt (64 * f + b) va = 64 * f + va % 64 := by unfold endAt; omega
        have e2 : refBits (64 * (T k (va / 1024)).fr + 7) (64 * f + b) = b := by
          unfold refBits
          have hb : b = 1 ∨ b = 3 ∨ b = 5 ∨ b = 7 ∨ b = 9 ∨ b = 11 ∨ b = 13 ∨ b = 15 := by omega
          have a2 : (64 * (T k (va / 1024)).fr + 7) / 2 % 2 = 1 := by omega
          have a4 : (64 * (T k (va / 1024)).fr + 7) / 4 % 2 = 1 := by omega
          have a8 : (64 * (T k (va / 1024)).fr + 7) / 8 % 2 = 0 := by omega
          have b2 : (64 * f + b) / 2 % 2 = b / 2 % 2 := by omega
          have b4 : (64 * f + b) / 4 % 2 = b / 4 % 2 := by omega
          have b8 : (64 * f + b) / 8 % 2 = b / 8 % 2 := by omega
          have b16 : (64 * f + b) / 16 % 2 = 0 := by omega
          rw [a2, a4, a8, b2, b4, b8, b16]
          rcases hb with rfl | rfl | rfl | rfl | rfl | rfl | rfl | rfl <;> rfl
        rw [if_neg (by omega), if_neg (by omega), e1, e2]
        exact ⟨_, _, _, by rw [show (64 * f + va % 64) / 64 = f by omega]⟩

/-- Several shadows, the memory and the pool. -/
structure MAt (x : World) (sh : Nat → Nat) (uv : Nat → Value) (r fb g p pm most ns : Nat) (T : Nat → Nat → Tab) (up : Nat → Bool) (L lent : List Int) (c : Nat) : Prop where
  shs : ∀ k, k < ns → ShU x (sh k) r p ((20 + 2 * k : Nat) : Int) (uv k) (T k)
  ups : ∀ k, k < ns → ∃ ua uc, uv k = .slice ua (upL (up k)).length uc ∧ UpR x ua (upL (up k)) (g :: p :: pm :: (List.range ns).map sh)
  ram : RamAt x r fb g (List.range 60) L
  inv : MInv most ns T up L lent
  pool : ∃ tk sh, PoolAt x p pm 40 most lent tk sh ∧ (0 ≤ tk ∧ tk ≤ (c : Int) ∧ 0 ≤ sh ∧ sh ≤ (c : Int))
  ne : (∀ k, k < ns → sh k ≠ r ∧ sh k ≠ fb ∧ sh k ≠ g ∧ sh k ≠ p ∧ sh k ≠ pm) ∧ (∀ k j, k < ns → j < ns → k ≠ j → sh k ≠ sh j) ∧ (p ≠ r ∧ p ≠ fb ∧ p ≠ g ∧ pm ≠ r ∧ pm ≠ fb ∧ pm ≠ g)

section
variable {w x y : World} {sh : Nat → Nat} {uv : Nat → Value} {r fb g p pm most ns : Nat} {T : Nat → Nat → Tab} {up : Nat → Bool} {L lent : List Int} {c : Nat}

theorem MAt.nb (hk : ∀ l : List Nat, True) {k : Nat} (h : k < ns) : sh k ∈ g :: p :: pm :: (List.range ns).map sh := by
  simp only [List.mem_cons, List.mem_map, List.mem_range]
  exact .inr (.inr (.inr ⟨k, h, rfl⟩))

theorem MAt.keep {l : List Nat} (h : MAt w sh uv r fb g p pm most ns T up L lent c) (hk : Keep l w x) (hr : r ∉ l ∧ fb ∉ l ∧ g ∉ l ∧ p ∉ l ∧ pm ∉ l) (hs : ∀ k, k < ns → sh k ∉ l) (hu : ∀ k, k < ns → up k = true → ∀ b, (uv k).ownBlock = some b → b ∉ l) : MAt x sh uv r fb g p pm most ns T up L lent c := by
  obtain ⟨tk, sn, hp, hb⟩ := h.pool
  refine ⟨fun k hkn => (h.shs k hkn).keep hk (hs k hkn), fun k hkn => ?_, h.ram.keep hk hr.1 hr.2.1 hr.2.2.1, h.inv, ⟨tk, sn, hp.keep hk hr.2.2.2.1 hr.2.2.2.2, hb⟩, h.ne⟩
  obtain ⟨ua, uc, h1, h2⟩ := h.ups k hkn
  refine ⟨ua, uc, h1, h2.le, h2.lt, ?_⟩
  rcases h2.row with h3 | ⟨b, o, h3, h4, h5⟩
  · exact .inl h3
  · by_cases hup : up k = true
    · exact .inr ⟨b, o, h3, h4, fun j hj => hk.cell (h5 j hj) (hu k hkn hup b (by rw [h1, h3]; rfl))⟩
    · refine .inl ?_
      have : up k = false := by simpa using hup
      rw [this]; rfl

theorem MAt.keep0 (h : MAt w sh uv r fb g p pm most ns T up L lent c) (hk : Keep [] w x) : MAt x sh uv r fb g p pm most ns T up L lent c := h.keep hk (by simp) (fun _ _ => by simp) (fun _ _ _ _ _ => by simp)

theorem MAt.later {c' : Nat} (h : MAt w sh uv r fb g p pm most ns T up L lent c) (hc : c ≤ c') : MAt w sh uv r fb g p pm most ns T up L lent c' := by
  obtain ⟨tk, sn, hp, hb⟩ := h.pool
  exact ⟨h.shs, h.ups, h.ram, h.inv, ⟨tk, sn, hp, by omega⟩, h.ne⟩

theorem MAt.one (h : MAt w sh uv r fb g p pm most ns T up L lent c) {k : Nat} (hk : k < ns) : URaw w (sh k) r fb g p pm 60 (20 + 2 * k) 40 most (uv k) (T k) L lent c := by
  have hm := h.inv.mst
  have hn := h.inv.nsb
  exact ⟨h.shs k hk, h.ram, h.inv.len, h.pool, by omega, by omega, by omega, h.ne.1 k hk, h.ne.2.2⟩

/-- One shadow's call leaves the others. -/
theorem MAt.back {k c' : Nat} {T' : Nat → Tab} {L' lent' : List Int} (h : MAt w sh uv r fb g p pm most ns T up L lent c) (hk : k < ns) (hK : Keep [sh k, g, p, pm] w y) (hU : URaw y (sh k) r fb g p pm 60 (20 + 2 * k) 40 most (uv k) T' L' lent' c') (hI : MInv most ns (setSh T k T') up L' lent') : MAt y sh uv r fb g p pm most ns (setSh T k T') up L' lent' c' := by
  refine ⟨fun j hj => ?_, fun j hj => ?_, hU.ram, hI, hU.pool, h.ne⟩
  · by_cases hjk : j = k
    · subst hjk; rw [setSh_same]; exact hU.sh
    · rw [setSh_ne hjk]
      have h1 := h.ne.1 j hj
      have h2 := h.ne.2.1 j k hj hk hjk
      exact (h.shs j hj).keep hK (by simp; omega)
  · obtain ⟨ua, uc, h1, h2⟩ := h.ups j hj
    exact ⟨ua, uc, h1, h2.keep hK (fun z hz => by
      simp only [List.mem_cons, List.not_mem_nil, or_false] at hz
      rcases hz with rfl | rfl | rfl | rfl
      · exact MAt.nb (fun _ => trivial) hk
      · simp
      · simp
      · simp)⟩

theorem upL_pos (b : Bool) : 0 < (upL b).length ↔ b = true := by cases b <;> decide

/-- How the tables go through a put. -/
def PutM (most ns : Nat) (T : Nat → Nat → Tab) (up : Nat → Bool) (lent : List Int) (k va : Nat) (frame : Int) (bb : Nat) (b : Bool) (T' : Nat → Nat → Tab) : Prop :=
  ((32 ≤ va / 1024 ∨ (16384 ≤ va ∧ up k = true) ∨ frame < 0 ∨ 60 ≤ frame) ∧ b = false ∧ T' = T) ∨
  ((va / 1024 < 32 ∧ ¬ (16384 ≤ va ∧ up k = true) ∧ 0 ≤ frame ∧ frame < 60) ∧ b = true ∧ ∃ T1, (((T k (va / 1024)).th = true ∧ T1 = T k) ∨ ((T k (va / 1024)).th = false ∧ ∃ f, ((f : Nat) : Int) ∉ lent ∧ 40 ≤ f ∧ f < 40 + most ∧ T1 = setTab (T k) (va / 1024) ⟨true, f, fun _ => 0⟩)) ∧ T' = setSh T k (setTab T1 (va / 1024) (setEn (T1 (va / 1024)) (va / 64 % 16) (entryOf frame.toNat bb)))) ∨
  ((va / 1024 < 32 ∧ ¬ (16384 ≤ va ∧ up k = true) ∧ 0 ≤ frame ∧ frame < 60) ∧ (T k (va / 1024)).th = false ∧ (∀ j : Nat, j < most → ((40 : Int) + (j : Int)) ∈ lent) ∧ b = false ∧ T' = T)

theorem setSh_self (T : Nat → Nat → Tab) (k : Nat) : setSh T k (T k) = T := by
  funext m
  by_cases h : m = k
  · rw [h, setSh_same]
  · rw [setSh_ne h]

theorem setSh_twice (T : Nat → Nat → Tab) (k : Nat) (a b : Nat → Tab) : setSh (setSh T k a) k b = setSh T k b := by
  funext m
  by_cases h : m = k
  · rw [h, setSh_same, setSh_same]
  · rw [setSh_ne h, setSh_ne h, setSh_ne h]

theorem mput_at (h : MAt w sh uv r fb g p pm most ns T up L lent c) (hc : c ≤ 100000) {k : Nat} (hk : k < ns) (va : Nat) (frame : Int) (bb : Nat) (hv : va < 4294967296) (hf1 : -9223372036854775808 ≤ frame) (hf2 : frame ≤ 9223372036854775807) (hb : bb < 4294967296) :
    Calls Try.prog 13 #[.pointer (some ⟨sh k, 0, none⟩), .int .u32 va, .int .i64 frame, .int .u32 bb] w fun e w' => ∃ b T' L' lent', e = .returned (.bool b) ∧ PutM most ns T up lent k va frame bb b T' ∧ MAt w' sh uv r fb g p pm most ns T' up L' lent' (c + 1) ∧ Keep [sh k, g, p, pm] w w' := by
  obtain ⟨ua, uc, hu, hU⟩ := h.ups k hk
  have h1 := h.one hk
  rw [hu] at h1
  have hm := h.inv.mst
  refine (uput_at h1 hc (fun m hm' ht => by have := h.inv.frm k hk m hm' ht; omega) va frame bb hv hf1 hf2 hb).mono ?_
  rintro e w' ⟨hK, hP⟩
  have hup := upL_pos (up k)
  have same : ∀ {b : Bool}, URaw w' (sh k) r fb g p pm 60 (20 + 2 * k) 40 most (.slice ua (upL (up k)).length uc) (T k) L lent (c + 1) → MAt w' sh uv r fb g p pm most ns T up L lent (c + 1) := fun {b} hS => by
    have := h.back hk hK (by rw [hu]; exact hS) (by rw [setSh_self]; exact h.inv)
    rwa [setSh_self] at this
  rcases hP with ⟨hbad, rfl, hS⟩ | ⟨hok, rfl, T1, L1, lent1, hL, hS⟩ | ⟨hok, hth, hall, rfl, hS⟩
  · exact ⟨false, T, L, lent, rfl, .inl ⟨by rw [← hup]; exact hbad, rfl, rfl⟩, same (b := false) hS, hK⟩
  · have hok' : va / 1024 < 32 ∧ ¬ (16384 ≤ va ∧ up k = true) ∧ 0 ≤ frame ∧ frame < 60 := by rw [← hup]; exact hok
    have hI1 : MInv most ns (setSh T k T1) up L1 lent1 ∧ (T1 (va / 1024)).th = true ∧ (((T k (va / 1024)).th = true ∧ T1 = T k) ∨ ((T k (va / 1024)).th = false ∧ ∃ f, ((f : Nat) : Int) ∉ lent ∧ 40 ≤ f ∧ f < 40 + most ∧ T1 = setTab (T k) (va / 1024) ⟨true, f, fun _ => 0⟩)) := by
      rcases hL with ⟨t1, rfl, rfl, rfl⟩ | ⟨t1, f, t2, t3, t4, rfl, rfl, rfl⟩
      · exact ⟨by rw [setSh_self]; exact h.inv, t1, .inl ⟨t1, rfl⟩⟩
      · exact ⟨h.inv.lend hk hok'.1 t1 (fun q => hok'.2.1 ⟨by omega, q.1⟩) ⟨t2, t3⟩ t4, by rw [setTab_same], .inr ⟨t1, f, t4, t2, t3, rfl⟩⟩
    have hI2 := hI1.1.lay (k := k) (n := va / 1024) (j := va / 64 % 16) (e := entryOf frame.toNat bb) hk hok'.1 (by omega) (by rw [setSh_same]; exact hI1.2.1) (entryOf_goodM (by omega))
    rw [setSh_same, setSh_twice] at hI2
    exact ⟨true, _, _, _, rfl, .inr (.inl ⟨hok', rfl, T1, hI1.2.2, rfl⟩), h.back hk hK (by rw [hu]; exact hS) hI2, hK⟩
  · exact ⟨false, T, L, lent, rfl, .inr (.inr ⟨by rw [← hup]; exact hok, hth, hall, rfl, rfl⟩), same (b := false) hS, hK⟩

theorem mclear_at (h : MAt w sh uv r fb g p pm most ns T up L lent c) {k : Nat} (hk : k < ns) :
    Calls Try.prog 54 #[.pointer (some ⟨sh k, 0, none⟩)] w fun e w' => (∃ v, e = .returned v) ∧ Hid (∃ L' lent', MAt w' sh uv r fb g p pm most ns (setSh T k (fun _ => tab0)) up L' lent' c ∧ Keep [sh k, g, p, pm] w w') := by
  obtain ⟨ua, uc, hu, hU⟩ := h.ups k hk
  have h1 := h.one hk
  rw [hu] at h1
  refine (uclear_at h1 (hU.less (fun z hz => by
      simp only [List.mem_cons, List.not_mem_nil, or_false] at hz
      rcases hz with rfl | rfl | rfl | rfl
      · exact MAt.nb (fun _ => trivial) hk
      · simp
      · simp
      · simp)) (fun m hm ht => (h.inv.lnt _).2 ⟨k, m, hk, hm, ht, rfl⟩) (fun m j hm hj htm htj he => (h.inv.inj k k hk hk m j hm hj htm htj he).2)).mono ?_
  rintro e w' ⟨he, hP⟩
  obtain ⟨hK, lent', hS, hl⟩ := hP.out
  obtain ⟨tk, sn, hp, hb⟩ := hS.pool
  exact ⟨he, Lib.hid ⟨_, _, h.back hk hK (by rw [hu]; exact hS) (h.inv.clear hk hl (setNodup hp.2)), hK⟩⟩

def setV (f : Nat → Value) (k : Nat) (v : Value) : Nat → Value := fun m => if m = k then v else f m
theorem setV_same {f : Nat → Value} {k : Nat} {v : Value} : setV f k v k = v := if_pos rfl
theorem setV_ne {f : Nat → Value} {k m : Nat} {v : Value} (h : m ≠ k) : setV f k v m = f m := if_neg h

theorem mupper_at (h : MAt w sh uv r fb g p pm most ns T up L lent c) {k : Nat} (hk : k < ns) (ht : T k = fun _ => tab0) (b : Bool) {ea : Option Addr} {ec : Nat} (hE : UpR w ea (upL b) [sh k, g]) (hE0 : b = false → ea = none ∧ ec = 0) :
    Calls Try.prog 63 #[.pointer (some ⟨sh k, 0, none⟩), .slice ea (upL b).length ec] w fun e w' => e = .returned (.bool true) ∧ Hid (∃ uv' L', MAt w' sh uv' r fb g p pm most ns T (setUp up k b) L' lent c ∧ (∀ m, m < ns → setUp up k b m = true → ∀ z, (uv' m).ownBlock = some z → (m ≠ k ∧ (uv m).ownBlock = some z) ∨ w.heap.size ≤ z) ∧ Keep [sh k, g] w w') := by
  have h1 := h.one hk
  rw [ht] at h1
  refine (uupper_at h1 hE (fun q => hE0 (by cases b <;> first | rfl | cases q))).mono ?_
  rintro e w' ⟨rfl, hK, ub, uc, hS, hR⟩
  refine ⟨rfl, Lib.hid ⟨setV uv k (.slice ub (upL b).length uc), _, ⟨fun j hj => ?_, fun j hj => ?_, hS.ram, h.inv.upper hk ht b, hS.pool, h.ne⟩, fun m hm hup z hz => ?_, hK⟩⟩
  · by_cases hjk : j = k
    · subst hjk; rw [setV_same, ht]; exact hS.sh
    · rw [setV_ne hjk]
      have h1 := h.ne.1 j hj
      have h2 := h.ne.2.1 j k hj hk hjk
      exact (h.shs j hj).keep hK (by simp; omega)
  · by_cases hjk : j = k
    · subst hjk
      rw [setV_same, setUp_same]
      refine ⟨ub, uc, rfl, hR.less (fun z hz => ?_)⟩
      obtain ⟨tk, sn, hp, hb⟩ := h.pool
      have a1 := lt_of_heap h.ram.data
      have a2 := lt_of_heap hp.1
      have a3 := hp.2.lt
      simp only [List.mem_cons, List.mem_map, List.mem_range] at hz ⊢
      rcases hz with rfl | rfl | rfl | ⟨m, hm, rfl⟩
      · exact a1
      · exact a2
      · exact a3
      · exact ArrAt.lt (h.shs m hm)
    · rw [setV_ne hjk, setUp_ne hjk]
      obtain ⟨ua, uc', h3, h4⟩ := h.ups j hj
      exact ⟨ua, uc', h3, h4.keep hK (fun z hz => by
        simp only [List.mem_cons, List.not_mem_nil, or_false] at hz
        rcases hz with rfl | rfl
        · exact MAt.nb (fun _ => trivial) hk
        · simp)⟩
  · by_cases hmk : m = k
    · subst hmk
      rw [setV_same] at hz
      rcases hR.row with h3 | ⟨bb, o, h3, h4, _⟩
      · rw [setUp_same] at hup
        rw [hup] at h3
        cases h3
      · rw [h3] at hz
        simp [Value.ownBlock] at hz
        subst hz
        exact .inr (by simpa using h4)
    · rw [setV_ne hmk] at hz; exact .inl ⟨hmk, hz⟩
end
end Go.Proofs.Ytpinoejckagjbaa
