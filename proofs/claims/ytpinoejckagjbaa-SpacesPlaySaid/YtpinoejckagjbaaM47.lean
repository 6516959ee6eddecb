/- Contracts of the functions that the law reaches, walked, and the plain laws on them (several texts in one). -/
import Derived.Test.YtpinoejckagjbaaM41
import Derived.Test.YtpinoejckagjbaaM42

/- The program's spaces and the document's: the plain law. -/
namespace Go.Proofs.Ytpinoejckagjbaa
open Go.RowKit Go.Mum
set_option linter.unusedVariables false
set_option linter.unusedSimpArgs false
set_option maxRecDepth 100000

/-- The document's spaces tell the program's. -/
structure AgM (T : Nat → Nat → Tab) (up : Nat → Bool) (A : QSt) (age : List Nat) (use : Bool) (R : RSt) : Prop where
  ag : ∀ k ∈ age, Agree (T k) (R.P k) (R.S k)
  tk : ∀ k ∈ age, R.tk k = A.tk k
  kk : ∀ k ∈ age, A.tk k = true → R.kp k = A.kp k ∧ R.kr k = A.kr k ∧ R.ur k = up k
  un : ∀ i ∈ age, ∀ j ∈ age, A.tk i = true → A.tk j = true → A.kp i = A.kp j → A.kr i = A.kr j → i = j
  us : use = true → ∀ i (hi : i + 1 = age.length), A.tk (age[i]'(by omega)) = true

theorem agM_start (up : Nat → Bool) (A : QSt) (hA : ∀ k, A.tk k = false) (age : List Nat) : AgM (fun _ _ => tab0) up A age false R0 :=
  ⟨fun k _ => agree_start, fun k _ => (hA k).symm, fun k _ h => (by rw [hA k] at h; cases h), fun i _ j _ h => (by rw [hA i] at h; cases h), (fun h => by cases h)⟩

theorem agM_clear {T : Nat → Nat → Tab} {up : Nat → Bool} {A : QSt} {age : List Nat} {use : Bool} {R : RSt} {ns : Nat} (hn : ns ≤ 8) : AgM (bareT T ns 8) up (A.bare ns 8) (List.range ns) false R0 := by
  have hT : ∀ k ∈ List.range ns, bareT T ns 8 k = fun _ => tab0 := fun k hk => by
    have := List.mem_range.1 hk
    exact if_pos (by omega)
  have hk : ∀ k ∈ List.range ns, (A.bare ns 8).tk k = false := fun k hk => by
    have := List.mem_range.1 hk
    exact if_pos (by omega)
  exact ⟨fun k hkm => by rw [hT k hkm]; exact agree_start, fun k hkm => (hk k hkm).symm, fun k hkm h => (by rw [hk k hkm] at h; cases h), fun i hi j _ h => (by rw [hk i hi] at h; cases h), (fun h => by cases h)⟩

section
variable {most ns : Nat} {T T' : Nat → Nat → Tab} {up up' : Nat → Bool} {L L' lent lent' : List Int} {A A' : QSt} {age age' : List Nat} {use : Bool} {R R' : RSt}

/-- As many frames are lent as the document has tables. -/
theorem AgM.lentS (h : AgM T up A age use R) (hI : MInv most ns T up L lent) (hnd : age.Nodup) (hlen : age.length = ns) (hlt : ∀ k ∈ age, k < ns) : lent.length = totS R age := by
  have hl : (age.flatMap fun k => (R.S k).map fun n => ((T k n).fr : Int)).length = totS R age := by
    rw [List.length_flatMap]
    unfold totS
    congr 1
    refine List.map_congr_left (fun k _ => ?_)
    simp
  rw [← hl]
  have hn2 : (age.flatMap fun k => (R.S k).map fun n => ((T k n).fr : Int)).Nodup := by
    unfold List.Nodup
    rw [List.pairwise_flatMap]
    refine ⟨fun k hk => ?_, List.Pairwise.imp_of_mem ?_ hnd⟩
    · rw [List.pairwise_map]
      refine List.Pairwise.imp_of_mem ?_ (h.ag k hk).nd
      intro a b ha hb hne he
      have h1 := ((h.ag k hk).mem a).1 ha
      have h2 := ((h.ag k hk).mem b).1 hb
      exact hne (hI.inj k k (hlt k hk) (hlt k hk) a b h1.1 h2.1 h1.2 h2.2 (by omega)).2
    · intro i j hi hj hne x hx y hy he
      obtain ⟨a, ha, rfl⟩ := List.mem_map.1 hx
      obtain ⟨b, hb, rfl⟩ := List.mem_map.1 hy
      have h1 := ((h.ag i hi).mem a).1 ha
      have h2 := ((h.ag j hj).mem b).1 hb
      exact hne (hI.inj i j (hlt i hi) (hlt j hj) a b h1.1 h2.1 h1.2 h2.2 (by omega)).1
  have a1 := nodup_le_int lent _ hI.lnd (fun z hz => by
    obtain ⟨k, n, hk, hn, ht, rfl⟩ := (hI.lnt z).1 hz
    have hka := mem_age hnd hlen hlt hk
    exact List.mem_flatMap.2 ⟨k, hka, List.mem_map.2 ⟨n, ((h.ag k hka).mem n).2 ⟨hn, ht⟩, rfl⟩⟩ : ∀ z ∈ lent, z ∈ age.flatMap fun k => (R.S k).map fun n => ((T k n).fr : Int))
  have a2 := nodup_le_int _ lent hn2 (fun z hz => by
    obtain ⟨k, hka, hz⟩ := List.mem_flatMap.1 hz
    obtain ⟨n, hn, rfl⟩ := List.mem_map.1 hz
    have h1 := ((h.ag k hka).mem n).1 hn
    exact (hI.lnt _).2 ⟨k, n, hlt k hka, h1.1, h1.2, rfl⟩)
  omega

/-- A key's space. -/
theorem AgM.select (h : AgM T up A age use R) (hnd : age.Nodup) (hlen : age.length = ns) (hlt : ∀ k ∈ age, k < ns) (hns : 1 ≤ ns) {kept lost kept' lost' kp kr : Nat} {b r1 r2 : Bool} {ag1 ag2 : List Nat}
    (hq : SelQ A age T up kept lost kp kr b r1 A' ag1 T' up' kept' lost') (hf : SelF R age kp kr b r2 R' ag2) : r1 = r2 ∧ ag1 = ag2 ∧ AgM T' up' A' ag1 true R' := by
  have hkey : ∀ k ∈ age, keyB R kp kr k = keyQ A kp kr k := fun k hk => by
    unfold keyB keyQ
    rw [h.tk k hk]
    cases ht : A.tk k
    · rfl
    · rw [(h.kk k hk ht).1, (h.kk k hk ht).2.1]
  have hk3 : ∀ k, keyQ A kp kr k = true → A.tk k = true ∧ A.kp k = kp ∧ A.kr k = kr := fun k hk => by
    unfold keyQ at hk
    simpa using hk
  rcases hq with ⟨n, hn, hkn, -, rfl, rfl, rfl, rfl, rfl, rfl, rfl⟩ | ⟨hno, rfl, h0, rfl, rfl, rfl, rfl, rfl, rfl⟩
  · rcases hf with ⟨i, hi, hki, -, rfl, rfl, rfl⟩ | ⟨hnf, -, -⟩
    · rw [hkey _ (List.getElem_mem hi)] at hki
      have hni : n = age[i] := by
        obtain ⟨a1, a2, a3⟩ := hk3 _ hkn
        obtain ⟨b1, b2, b3⟩ := hk3 _ hki
        exact h.un n hn _ (List.getElem_mem hi) a1 b1 (by rw [a2, b2]) (by rw [a3, b3])
      rw [hni]
      have hm := youngL_mem (List.getElem_mem hi)
      refine ⟨rfl, rfl, ⟨fun k hk => h.ag k ((hm k).1 hk), fun k hk => h.tk k ((hm k).1 hk), fun k hk => h.kk k ((hm k).1 hk), fun a ha c hc => h.un a ((hm a).1 ha) c ((hm c).1 hc), fun _ j hj => ?_⟩⟩
      rw [youngL_last hnd (List.getElem_mem hi) (by rw [youngL_len hnd (List.getElem_mem hi)] at hj; exact hj)]
      rw [← hni]
      exact (hk3 _ hkn).1
    · have := hnf n hn
      rw [hkey n hn, hkn] at this
      cases this
  · rcases hf with ⟨i, hi, hki, -, rfl, rfl, rfl⟩ | ⟨hnf, rfl, h0', rfl, rfl⟩
    · rw [hkey _ (List.getElem_mem hi), hno] at hki
      cases hki
    · obtain ⟨a, ha⟩ : ∃ a, a = age[0] := ⟨_, rfl⟩
      have ham : a ∈ age := by rw [ha]; exact List.getElem_mem h0
      rw [← ha]
      have hm := youngL_mem ham
      refine ⟨rfl, rfl, ⟨fun k hk => ?_, fun k hk => ?_, fun k hk ht => ?_, fun i hi j hj hti htj hp hr => ?_, fun _ j hj => ?_⟩⟩
      · show Agree (setSh T a (fun _ => tab0) k) (updN R.P a [] k) (updN R.S a [] k)
        by_cases hka : k = a
        · subst hka; rw [setSh_same, updN_same, updN_same]; exact agree_start
        · rw [setSh_ne hka, updN_ne hka, updN_ne hka]; exact h.ag k ((hm k).1 hk)
      · show updN R.tk a true k = updN A.tk a true k
        by_cases hka : k = a
        · subst hka; rw [updN_same, updN_same]
        · rw [updN_ne hka, updN_ne hka]; exact h.tk k ((hm k).1 hk)
      · show updN R.kp a kp k = updN A.kp a kp k ∧ updN R.kr a kr k = updN A.kr a kr k ∧ updN R.ur a b k = setUp up a b k
        by_cases hka : k = a
        · subst hka; rw [updN_same, updN_same, updN_same, updN_same, updN_same, setUp_same]; exact ⟨rfl, rfl, rfl⟩
        · have ht' : updN A.tk a true k = true := ht
          rw [updN_ne hka] at ht'
          rw [updN_ne hka, updN_ne hka, updN_ne hka, updN_ne hka, updN_ne hka, setUp_ne hka]; exact h.kk k ((hm k).1 hk) ht'
      · have hti' : updN A.tk a true i = true := hti
        have htj' : updN A.tk a true j = true := htj
        have hp' : updN A.kp a kp i = updN A.kp a kp j := hp
        have hr' : updN A.kr a kr i = updN A.kr a kr j := hr
        have hno' : ∀ m, A.tk m = true → A.kp m = kp → A.kr m = kr → False := fun m m1 m2 m3 => by
          have := hno m
          unfold keyQ at this
          rw [m1, m2, m3] at this
          simp at this
        by_cases hia : i = a
        · by_cases hja : j = a
          · rw [hia, hja]
          · exfalso
            rw [hia, updN_same, updN_ne hja] at hp' hr'
            rw [updN_ne hja] at htj'
            exact hno' j htj' hp'.symm hr'.symm
        · by_cases hja : j = a
          · exfalso
            rw [hja, updN_same, updN_ne hia] at hp' hr'
            rw [updN_ne hia] at hti'
            exact hno' i hti' hp' hr'
          · rw [updN_ne hia] at hti' hp' hr'
            rw [updN_ne hja] at htj' hp' hr'
            exact h.un i ((hm i).1 hi) j ((hm j).1 hj) hti' htj' hp' hr'
      · rw [youngL_last hnd ham (by rw [youngL_len hnd ham] at hj; exact hj)]
        show updN A.tk a true a = true
        rw [updN_same]

/-- A page put with success in both. -/
theorem agree_tt {n va bb : Nat} {frame : Int} {tot : Nat} {P' : List Pg} {S' : List Nat} (h : Agree (T n) (R.P n) (R.S n)) (hoff : ∀ m, m < 32 → (T n m).th = false → ∀ j, (T n m).en j = 0)
    (hp : PutM most ns T up lent n va frame bb true T') (hr : OneM R tot most n va frame bb true P' S') : Agree (T' n) P' S' ∧ ∀ m, m ≠ n → T' m = T m := by
  rcases hp with ⟨-, h2, -⟩ | ⟨⟨h1, h1', h2, h3⟩, -, T1, hl, rfl⟩ | ⟨-, -, -, h2, -⟩
  · cases h2
  · have hE : tabE T1 = tabE (T n) := by
      rcases hl with ⟨_, rfl⟩ | ⟨h0, f, -, -, -, rfl⟩
      · rfl
      · funext j
        unfold tabE
        by_cases hj : j / 16 = va / 1024
        · rw [hj, setTab_same, hoff _ h1 h0]
        · rw [setTab_ne hj]
    have hT1 : (T1 (va / 1024)).th = true := by
      rcases hl with ⟨h, rfl⟩ | ⟨_, f, -, -, -, rfl⟩
      · exact h
      · rw [setTab_same]
    have hmem : ∀ m, (m < 32 ∧ (setTab T1 (va / 1024) (setEn (T1 (va / 1024)) (va / 64 % 16) (entryOf frame.toNat bb)) m).th = true) ↔ (m ∈ R.S n ∨ m = va / 1024) := by
      intro m
      by_cases hm : m = va / 1024
      · rw [hm, setTab_same]
        exact ⟨fun _ => .inr rfl, fun _ => ⟨h1, hT1⟩⟩
      · rw [setTab_ne hm, h.mem m]
        have : T1 m = T n m := by
          rcases hl with ⟨_, rfl⟩ | ⟨_, f, -, -, -, rfl⟩
          · rfl
          · exact setTab_ne hm
        rw [this]
        exact ⟨.inl, fun q => q.resolve_right hm⟩
    rcases hr with ⟨_, g, _⟩ | ⟨_, _, _, g, _⟩ | ⟨-, -, -, rfl, rfl⟩
    · cases g
    · cases g
    · refine ⟨?_, fun m hm => setSh_ne hm⟩
      rw [setSh_same]
      refine ⟨?_, ?_, ?_⟩
      · split
        · exact h.nd
        · rename_i hni
          rw [List.nodup_append]
          exact ⟨h.nd, by simp, by intro a ha b hb; simp at hb; rintro rfl; rw [hb] at ha; exact hni ha⟩
      · intro m
        rw [hmem m]
        split
        · rename_i hin
          exact ⟨.inl, fun q => q.elim id (fun e => by rw [e]; exact hin)⟩
        · simp
      · rw [h.pg, tabE_set _ (by omega), hE, show 16 * (va / 1024) + va / 64 % 16 = va / 64 by omega]
        have he : entryOf frame.toNat bb ≠ 0 := by unfold entryOf; omega
        have := pagesE_put (tabE (T n)) (i := va / 64) he (512 - (va / 64 + 1))
        rw [show va / 64 + 1 + (512 - (va / 64 + 1)) = 512 by omega] at this
        rw [← this, show va - va % 64 = 64 * (va / 64) by omega]
        congr 2
        unfold entryOf
        refine Prod.ext ?_ ?_
        · show frame.toNat = _
          omega
        · show bb % 16 / 2 * 2 + 1 = _
          omega
  · cases h2

/-- Both succeed, or neither. -/
theorem put_same {n va bb : Nat} {frame : Int} {b1 b2 : Bool} {P' : List Pg} {S' : List Nat} {tot : Nat} (h : Agree (T n) (R.P n) (R.S n)) (hI : MInv most ns T up L lent) (hu : R.ur n = up n) (htot : lent.length = tot)
    (hp : PutM most ns T up lent n va frame bb b1 T') (hr : OneM R tot most n va frame bb b2 P' S') : b1 = b2 := by
  unfold OneM at hr
  rw [hu] at hr
  rcases hp with ⟨h1, rfl, -⟩ | ⟨h1, rfl, T1, hl, -⟩ | ⟨h1, h2, h3, rfl, -⟩
  · rcases hr with ⟨_, rfl, -⟩ | ⟨g, -⟩ | ⟨g, -⟩
    · rfl
    · exfalso
      rcases h1 with h1 | h1 | h1 | h1
      · omega
      · exact g.2.1 h1
      · omega
      · omega
    · exfalso
      rcases h1 with h1 | h1 | h1 | h1
      · omega
      · exact g.2.1 h1
      · omega
      · omega
  · rcases hr with ⟨g, -⟩ | ⟨g, g2, g3, -⟩ | ⟨_, _, rfl, -⟩
    · exfalso
      rcases g with g | g | g | g
      · omega
      · exact h1.2.1 g
      · omega
      · omega
    · exfalso
      rcases hl with ⟨ht, -⟩ | ⟨-, f, hf, hf1, hf2, -⟩
      · exact g2 ((h.mem _).2 ⟨h1.1, ht⟩)
      · have := nodup_le_int ((f : Int) :: lent) ((List.range most).map fun j : Nat => (40 : Int) + (j : Int)) (List.nodup_cons.2 ⟨hf, hI.lnd⟩) (fun z hz => by
          rw [List.mem_map]
          rcases List.mem_cons.1 hz with rfl | hz
          · exact ⟨f - 40, List.mem_range.2 (by omega), by omega⟩
          · obtain ⟨k, n, hk, hn, ht, rfl⟩ := (hI.lnt z).1 hz
            have := hI.frm k hk n hn ht
            exact ⟨(T k n).fr - 40, List.mem_range.2 (by omega), by omega⟩)
        simp only [List.length_cons, List.length_map, List.length_range] at this
        omega
    · rfl
  · rcases hr with ⟨_, rfl, -⟩ | ⟨_, _, _, rfl, -⟩ | ⟨_, g, -, -⟩
    · rfl
    · rfl
    · exfalso
      have hni : va / 1024 ∉ R.S n := fun hin => by rw [((h.mem _).1 hin).2] at h2; cases h2
      have := nodup_le_int ((List.range most).map fun j : Nat => (40 : Int) + (j : Int)) lent (by
        rw [List.nodup_iff_pairwise_ne, List.pairwise_map]
        exact (List.nodup_iff_pairwise_ne.1 List.nodup_range).imp (fun h => by omega)) (fun z hz => by
        rw [List.mem_map] at hz
        obtain ⟨j, hj, rfl⟩ := hz
        exact h3 j (List.mem_range.1 hj))
      simp only [List.length_map, List.length_range] at this
      rcases g with g | g
      · exact hni g
      · omega

theorem agree_bare {a : Nat} (h : ∀ k ∈ age, Agree (T k) (R.P k) (R.S k)) : ∀ k ∈ age, Agree (setSh T a (fun _ => tab0) k) ((R.bare a).P k) ((R.bare a).S k) := fun k hk => by
  show Agree _ (updN R.P a [] k) (updN R.S a [] k)
  by_cases hka : k = a
  · subst hka; rw [setSh_same, updN_same, updN_same]; exact agree_start
  · rw [setSh_ne hka, updN_ne hka, updN_ne hka]; exact h k hk

/-- A page put. -/
theorem AgM.put (h : AgM T up A age true R) (hI : MInv most ns T up L lent) (hnd : age.Nodup) (hlen : age.length = ns) (hlt : ∀ k ∈ age, k < ns) {i : Nat} (hi : i + 1 = age.length) {va bb : Nat} {frame : Int} {b1 b2 : Bool}
    (hq : PutQ most ns T up lent age (age[i]'(by omega)) va frame bb b1 T') (hf : PutF R age most (age[i]'(by omega)) va frame bb b2 R') : b1 = b2 ∧ AgM T' up A age true R' := by
  have hil : i < age.length := by omega
  have htk := h.us rfl i hi
  have hmem := List.getElem_mem hil
  obtain ⟨n, hn⟩ : ∃ n, n = age[i] := ⟨_, rfl⟩
  rw [← hn] at hq hf htk hmem
  have hu := (h.kk n hmem htk).2.2
  have htot := h.lentS hI hnd hlen hlt
  obtain ⟨⟨e1, e2, e3, e4⟩, hf⟩ := hf
  have hag := h.ag n hmem
  have hoff : ∀ m, m < 32 → (T n m).th = false → ∀ j, (T n m).en j = 0 := fun m hm ht j => hI.off n (hlt n hmem) m hm ht j
  have hcnt : ∀ k ∈ age, (cntT (T k) 32 = 0 ↔ R.S k = []) := fun k hk => by
    have := (h.ag k hk).count
    unfold cntT
    rw [this, List.length_eq_zero_iff]
  have fin : ∀ {T2 : Nat → Nat → Tab} {P2 : Nat → List Pg} {S2 : Nat → List Nat} {P1 : List Pg} {S1 : List Nat}, (∀ k ∈ age, Agree (T2 k) (P2 k) (S2 k)) → Agree (T' n) P1 S1 → (∀ m, m ≠ n → T' m = T2 m) → R'.P = updN P2 n P1 → R'.S = updN S2 n S1 → AgM T' up A age true R' := fun {T2 P2 S2 P1 S1} h2 h3 h4 h5 h6 => by
    refine ⟨fun k hk => ?_, fun k hk => by rw [e1]; exact h.tk k hk, fun k hk ht => by rw [e2, e3, e4]; exact h.kk k hk ht, h.un, h.us⟩
    rw [h5, h6]
    by_cases hkn : k = n
    · subst hkn; rw [updN_same, updN_same]; exact h3
    · rw [updN_ne hkn, updN_ne hkn, h4 k hkn]; exact h2 k hk
  rcases hq with ⟨hp, rfl⟩ | ⟨hp, rfl, rfl, hw⟩ | ⟨hp, rfl, hw, k, hk, hk1, hk2, lent2, hp2⟩
  · rcases hf with ⟨P1, S1, ho, rfl, h5, h6⟩ | ⟨ho, -⟩ | ⟨ho, -⟩
    · have := agree_tt hag hoff hp ho
      exact ⟨rfl, fin h.ag this.1 this.2 h5 h6⟩
    · have := put_same hag hI hu htot hp ho
      cases this
    · have := put_same hag hI hu htot hp ho
      cases this
  · rcases hf with ⟨P1, S1, ho, rfl, -⟩ | ⟨ho, rfl, h5, h6, -⟩ | ⟨ho, g1, g2, g3, g4, k, hk, -, hk2, rfl, -⟩
    · have := put_same hag hI hu htot hp ho
      cases this
    · exact ⟨rfl, ⟨fun k hk => by rw [h5, h6]; exact h.ag k hk, fun k hk => by rw [e1]; exact h.tk k hk, fun k hk ht => by rw [e2, e3, e4]; exact h.kk k hk ht, h.un, h.us⟩⟩
    · exfalso
      rcases hw with ⟨L1, lent1, hI1, hw⟩ | hw
      · have hl1 : lent1.length = totS R age := AgM.lentS h hI1 hnd hlen hlt
        have hle := hI.lent_le
        rcases ho with ⟨o, -⟩ | ⟨-, o1, o2, -⟩ | ⟨_, _, o, -⟩
        · rcases o with o | o | o | o
          · omega
          · exact g2 o
          · omega
          · omega
        · have hhas : hasB (T' n) va = false := by
            unfold hasB
            have : (T' n (va / 1024)).th = false := by
              cases ht : (T' n (va / 1024)).th
              · rfl
              · exact absurd ((hag.mem _).2 ⟨by omega, ht⟩) o1
            rw [this]; simp
          unfold wantB at hw
          rw [hhas, decide_eq_true (show va / 1024 < 32 ∧ ¬ (16384 ≤ va ∧ up n = true) ∧ 0 ≤ frame ∧ frame < 60 from ⟨by omega, by rw [← hu]; exact g2, g3, g4⟩), decide_eq_true (show lent1.length = most by omega)] at hw
          simp at hw
        · cases o
      · exact hk2 ((hcnt _ (List.getElem_mem hk)).1 (hw _ (List.getElem_mem hk)))
  · obtain ⟨L1, lent1, hI1, hw⟩ := hw
    unfold wantB at hw
    rw [Bool.and_eq_true, decide_eq_true_eq] at hw
    obtain ⟨⟨w1, w2, w3, w4⟩, -⟩ := hw
    rcases hf with ⟨P1, S1, ho, rfl, -⟩ | ⟨ho, rfl, -, -, g⟩ | ⟨ho, g1, g2, g3, g4, k', hk', hk1', hk2', rfl, P1, S1, ho2, h5, h6⟩
    · have := put_same hag hI hu htot hp ho
      cases this
    · exfalso
      rcases g with g | g | g | g | g
      · omega
      · rw [hu] at g; exact w2 g
      · omega
      · omega
      · exact hk2 ((hcnt _ (List.getElem_mem hk)).2 (g _ (List.getElem_mem hk)))
    · have hkk : k = k' := by
        rcases Nat.lt_trichotomy k k' with q | q | q
        · exact absurd ((hcnt _ (List.getElem_mem hk)).2 (hk1' k hk q)) hk2
        · exact q
        · exact absurd ((hcnt _ (List.getElem_mem hk')).1 (hk1 k' hk' q)) hk2'
      subst hkk
      have hb := agree_bare (a := age[k]) h.ag
      have hoff2 : ∀ m, m < 32 → (setSh T age[k] (fun _ => tab0) n m).th = false → ∀ j, (setSh T age[k] (fun _ => tab0) n m).en j = 0 := fun m hm ht j => by
        by_cases hka : n = age[k]
        · rw [hka, setSh_same]; rfl
        · rw [setSh_ne hka] at ht ⊢; exact hoff m hm ht j
      have := agree_tt (hb n hmem) hoff2 hp2 ho2
      exact ⟨rfl, fin hb this.1 this.2 h5 h6⟩

/-- How many spaces are somebody's: a selecting makes them no fewer. -/
theorem SelF.count {kp kr : Nat} {b r2 : Bool} {ag2 : List Nat} (hf : SelF R age kp kr b r2 R' ag2) (hnd : age.Nodup) : (age.reverse.filter R.tk).length ≤ (ag2.reverse.filter R'.tk).length := by
  have hperm : ∀ {a : Nat}, a ∈ age → (youngL age a).Perm age := fun {a} ha => (List.perm_ext_iff_of_nodup (youngL_nd hnd a) hnd).2 (youngL_mem ha)
  have hcount : ∀ (f : Nat → Bool) (l m : List Nat), l.Perm m → (l.reverse.filter f).length = (m.reverse.filter f).length := fun f l m hp => (((List.reverse_perm l).trans (hp.trans (List.reverse_perm m).symm)).filter f).length_eq
  rcases hf with ⟨i, hi, -, -, -, rfl, rfl⟩ | ⟨-, -, h0, rfl, rfl⟩
  · exact Nat.le_of_eq (hcount _ _ _ (hperm (List.getElem_mem hi))).symm
  · rw [hcount _ _ _ (hperm (List.getElem_mem h0))]
    have hle : ∀ l : List Nat, (l.filter R.tk).length ≤ (l.filter (updN R.tk age[0] true)).length := by
      intro l
      induction l with
      | nil => exact Nat.le_refl _
      | cons x l ih =>
        rw [List.filter_cons, List.filter_cons]
        cases hx : R.tk x
        · cases hy : updN R.tk age[0] true x <;> simp <;> omega
        · have hy : updN R.tk age[0] true x = true := by
            by_cases he : x = age[0]
            · rw [he, updN_same]
            · rw [updN_ne he]; exact hx
          rw [hy]; simp; omega
    exact hle _

theorem AgM.keys (h : AgM T up A age use R) : age.reverse.filter A.tk = age.reverse.filter R.tk ∧ ∀ k ∈ age.reverse.filter A.tk, A.kp k = R.kp k ∧ A.kr k = R.kr k := by
  refine ⟨?_, fun k hk => ?_⟩
  · apply List.filter_congr
    intro k hk
    rw [h.tk k (List.mem_reverse.1 hk)]
  · obtain ⟨h1, h2⟩ := List.mem_filter.1 hk
    have := h.kk k (List.mem_reverse.1 h1) h2
    exact ⟨this.1.symm, this.2.1.symm⟩
end
end Go.Proofs.Ytpinoejckagjbaa
