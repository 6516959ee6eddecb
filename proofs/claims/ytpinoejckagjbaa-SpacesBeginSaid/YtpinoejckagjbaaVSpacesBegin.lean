/- The law SpacesBegin, walked. -/
import Derived.BigQuiet
import Derived.Outline
import Derived.Test.YtpinoejckagjbaaM49
namespace Go.Proofs.Ytpinoejckagjbaa
open Go.RowKit Go.Mum
set_option linter.unusedVariables false
set_option linter.unusedSimpArgs false
set_option maxRecDepth 100000

/-- Two directories that do not lie within one another. -/
def farI (a b : Int) : Prop := a ≠ b ∧ a ≠ b - 1 ∧ a ≠ b + 1
def goodK (z : Nat → Int) (n k : Nat) : Prop := (0 ≤ z k ∧ z k < (n : Int) - 1) ∧ ∀ j, j < k → farI (z j) (z k)

theorem farI.symm {a b : Int} (h : farI a b) : farI b a := by unfold farI at *; omega

theorem foldl_max_mem : ∀ (l : List Int) (a : Int), l.foldl max a = a ∨ l.foldl max a ∈ l
  | [], a => .inl rfl
  | x :: l, a => by
    simp only [List.foldl_cons]
    rcases foldl_max_mem l (max a x) with h | h
    · rw [h]
      rcases (by omega : max a x = a ∨ max a x = x) with h | h
      · exact .inl h
      · right; rw [h]; exact List.mem_cons_self
    · exact .inr (List.mem_cons_of_mem _ h)

theorem maxOf_mem {l : List Int} (h : l ≠ []) : Lib.maxOf l ∈ l := by
  unfold Lib.maxOf
  cases l with
  | nil => exact absurd rfl h
  | cons x l =>
    rcases foldl_max_mem (x :: l) ((x :: l).headD 0) with h | h
    · rw [h]; exact List.mem_cons_self
    · exact h

theorem apartB_iff (zs : List Int) : apartB zs = true ↔ zs.Pairwise farI := by
  have hperm : (sortI zs).Perm zs := List.mergeSort_perm zs _
  rw [← hperm.pairwise_iff farI.symm]
  have hl := sortI_len zs
  have hget : ∀ k, (hk : k < (sortI zs).length) → (sortI zs).getD k 0 = (sortI zs)[k] := fun k hk => by
    rw [List.getD_eq_getElem?_getD, List.getElem?_eq_getElem hk]; rfl
  unfold apartB
  rw [List.all_eq_true]
  constructor
  · intro h
    have step : ∀ k, k + 1 < zs.length → (sortI zs).getD k 0 + 2 ≤ (sortI zs).getD (k + 1) 0 := fun k hk => by
      have := h k (List.mem_range.2 (by omega))
      simpa using this
    have all : ∀ d i, i + 1 + d < zs.length → (sortI zs).getD i 0 + 2 ≤ (sortI zs).getD (i + 1 + d) 0 := by
      intro d
      induction d with
      | zero => intro i hi; exact step i hi
      | succ d ih =>
        intro i hi
        have h1 := ih i (by omega)
        have h2 := step (i + 1 + d) (by omega)
        rw [show i + 1 + (d + 1) = i + 1 + d + 1 by omega]
        omega
    rw [List.pairwise_iff_getElem]
    intro i j hi hj hij
    have := all (j - i - 1) i (by omega)
    rw [show i + 1 + (j - i - 1) = j by omega, hget i hi, hget j hj] at this
    unfold farI; omega
  · intro h k hk
    rw [List.mem_range] at hk
    have h1 := List.pairwise_iff_getElem.1 h k (k + 1) (by omega) (by omega) (by omega)
    have h2 := sortI_le zs (k := k) (by omega)
    rw [hget k (by omega), hget (k + 1) (by omega)] at *
    unfold farI at h1
    exact decide_eq_true (by omega)

theorem dirsB_iff (z : Nat → Int) {n len : Nat} (h1 : 1 ≤ len) (hn : n ≤ 500) : dirsB ((List.range len).map z) n = true ↔ ∀ k, k < len → goodK z n k := by
  have hmem : ∀ {a : Int}, a ∈ (List.range len).map z ↔ ∃ k, k < len ∧ z k = a := fun {a} => by
    rw [List.mem_map]
    constructor
    · rintro ⟨k, hk, h⟩; exact ⟨k, List.mem_range.1 hk, h⟩
    · rintro ⟨k, hk, h⟩; exact ⟨k, List.mem_range.2 hk, h⟩
  have hne : (List.range len).map z ≠ [] := by
    intro h
    have := congrArg List.length h
    simp at this; omega
  have hpw : ((List.range len).map z).Pairwise farI ↔ ∀ k, k < len → ∀ j, j < k → farI (z j) (z k) := by
    rw [List.pairwise_iff_getElem]
    constructor
    · intro h k hk j hj
      have := h j k (by simp; omega) (by simp; omega) hj
      simpa using this
    · intro h i j hi hj hij
      simp at hi hj
      have := h j hj i hij
      simpa using this
  unfold dirsB
  rw [Bool.and_eq_true, Bool.and_eq_true, List.all_eq_true, decide_eq_true_eq, apartB_iff, hpw]
  constructor
  · rintro ⟨ha, hb, hc⟩ k hk
    have h0 := of_decide_eq_true (ha _ (hmem.2 ⟨k, hk, rfl⟩))
    have h2 := le_maxOf (hmem.2 ⟨k, hk, rfl⟩)
    exact ⟨⟨h0.1, by omega⟩, hb k hk⟩
  · intro h
    refine ⟨fun a ha => ?_, fun k hk j hj => (h k hk).2 j hj, ?_⟩
    · obtain ⟨k, hk, rfl⟩ := hmem.1 ha
      have := (h k hk).1
      exact decide_eq_true (by omega)
    · obtain ⟨k, hk, he⟩ := hmem.1 (maxOf_mem hne)
      have := (h k hk).1
      omega

/-- What the law asks of the directories. -/
def mayP (z : Nat → Int) (n len ul : Nat) : Prop := (1 ≤ len ∧ len ≤ 8 ∧ ul ≤ 16) ∧ ∀ k, k < len → goodK z n k

theorem dirs_of_fits {w : World} {B n : Nat} {s : Option Addr} {len cap : Nat} (h : Fits Try.prog w B n 81 [.slice s len cap]) : ∃ z : Nat → Int, DirsAt w s ((List.range len).map z) ∧ (len = 0 ∨ ∃ lb off, s = some ⟨lb, off, none⟩ ∧ len ≤ 9223372036854775807 ∧ ∀ i, i < len → w.cell? ⟨lb, off + i, none⟩ = some (.int .i64 (z i)) ∧ -9223372036854775808 ≤ z i ∧ z i ≤ 9223372036854775807) := by
  rcases h.ints Try.underlying81 Try.underlying3 (by kernel_rfl) with h | ⟨b, off, rfl, h0, h1, h2, _, hb, z, hz⟩
  · subst h
    exact ⟨fun _ => 0, .inl rfl, .inl rfl⟩
  · refine ⟨z, .inr ⟨b, off, rfl, hb, fun i hi => ?_⟩, .inr ⟨b, off, rfl, by unfold maxLen at h2; omega, fun i hi => ?_⟩⟩
    · simp at hi
      rw [(hz i hi).1]; simp
    · have := wf_i64 (hz i hi).2
      exact ⟨(hz i hi).1, this.1, this.2⟩

theorem upper_of_fits {w : World} {B n : Nat} {s : Option Addr} {len cap : Nat} (h : Fits Try.prog w B n 44 [.slice s len cap]) (hl : len ≤ 16) : ∃ us : List Nat, us.length = len ∧ UpR w s us [] := by
  rcases h.ints Try.underlying44 Try.underlying22 (by kernel_rfl) with h | ⟨b, off, rfl, h0, h1, h2, _, hb, z, hz⟩
  · exact ⟨[], by rw [h]; rfl, by simp, by simp, .inl rfl⟩
  · refine ⟨(List.range len).map fun i => (z i).toNat, by simp, by simpa using hl, fun e he => ?_, .inr ⟨b, off, rfl, by simp, fun k hk => ?_⟩⟩
    · obtain ⟨i, hi, rfl⟩ := List.mem_map.1 he
      have := wf_u32 (hz i (List.mem_range.1 hi)).2
      omega
    · simp at hk
      have := wf_u32 (hz k hk).2
      rw [(hz k hk).1]
      simp
      omega

/-- How the law's test stands at a round of its loops. -/
def MayO (sz : Bool) (z : Nat → Int) (n len k : Nat) (m : Bool) : Prop := (m = true ∧ sz = true ∧ ∀ i, i < k → goodK z n i) ∨ (m = false ∧ ¬ (sz = true ∧ ∀ i, i < len → goodK z n i))
def MayJ (rg : Bool) (z : Nat → Int) (n k j : Nat) (zk : Int) (m : Bool) : Prop := (m = true ∧ rg = true ∧ ∀ i, i < j → farI (z i) zk) ∨ (m = false ∧ ¬ goodK z n k)

def BegN (m : Bool) (r fb g p pm n : Nat) (zs : List Int) (w wo : World) (e : Ending) (y : World) : Prop := (m = false ∧ e = .returned (.tuple #[.pointer none, .int .i64 2]) ∧ Keep [] w y) ∨ (m = true ∧ ∃ us, NewSp r fb g p pm n zs us wo e y)

set_option maxHeartbeats 8000000 in
theorem SpacesBegin_walk (s0 : Option Addr) (len0 cap0 n0 : Nat) (a1 : Int) (s2 : Option Addr) (len2 cap2 n2 : Nat) (w : World) (w0 : Fits Try.prog w maxLen n0 81 [.slice s0 len0 cap0]) (w1 : (Lit.int .u8 a1).wf = true) (w2 : Fits Try.prog w maxLen n2 44 [.slice s2 len2 cap2]) :
    Calls Try.prog 8 #[.slice s0 len0 cap0, .int .u8 a1, .slice s2 len2 cap2] w fun e w' => e = .returned (.bool true) ∧ Below w.heap.size w w' := by
  obtain ⟨z, hD, hz⟩ := dirs_of_fits w0
  have HD := Lib.hid (And.intro hD hz)
  have HU := Lib.hid (fun hl => upper_of_fits w2 hl)
  have b1 := wf_u8 w1
  obtain ⟨fr, rfl⟩ : ∃ m : Nat, a1 = (m : Int) := ⟨a1.toNat, by omega⟩
  obtain ⟨f4, hf4⟩ : ∃ m, m = fr % 40 := ⟨_, rfl⟩
  have t1 : ((fr : Int)).tmod 40 = (f4 : Int) := by rw [Int.tmod_eq_emod_of_nonneg (by omega)]; omega
  have u1 : (fr : Int) % 40 = (f4 : Int) := by omega
  have t2 : IntKind.i64.wrap (f4 : Int) = (f4 : Int) := IntWalk.i64_in _ (by omega)
  obtain ⟨n, hn⟩ : ∃ n, n = 1 + f4 := ⟨_, rfl⟩
  have t3 : (1 : Int) + (f4 : Int) = (n : Int) := by omega
  have t4 : IntKind.i64.wrap (n : Int) = (n : Int) := IntWalk.i64_in _ (by omega)
  have hn40 : 1 ≤ n ∧ n ≤ 40 := by omega
  clear w0 w1 w2 b1 hD hz hf4 hn
  go_enter Try.func8, Try.ntmps8
  go_wp2_with fail
  refine (rnew_good n _ hn40.1 (by omega)).mono ?_
  rintro e y ⟨r, fb, g, hr, hfb, hg, rfl, hA, hk⟩
  have H1 : Hid (RamAt y r fb g (List.range n) (List.replicate (64 * n) 0) ∧ Keep [] w y ∧ (w.heap.size ≤ r ∧ w.heap.size ≤ fb ∧ w.heap.size ≤ g)) := Lib.hid ⟨hA, hk, hr, hfb, hg⟩
  clear hA hk hr hfb hg
  go_wp2_with fail
  refine (pnew_good 0 1 _ (by omega) (by omega) (by omega) (by omega)).mono ?_
  rintro e y2 ⟨p, pm, hp, hpm, rfl, hP, hk2⟩
  have H2 : Hid (PoolAt y2 p pm 0 1 [] 0 0 ∧ Keep [] y y2) := Lib.hid ⟨hP, hk2⟩
  clear hP hk2 hp hpm
  obtain ⟨sz, hsz⟩ : ∃ b, b = decide (1 ≤ len0 ∧ len0 ≤ 8 ∧ len2 ≤ 16) := ⟨_, rfl⟩
  have HS := Lib.hid hsz
  clear hsz
  have hcase : (decide ((1 : Int) ≤ (len0 : Int)) = false ∧ sz = false) ∨ (decide ((1 : Int) ≤ (len0 : Int)) = true ∧ decide ((len0 : Int) ≤ 8) = false ∧ sz = false) ∨ (decide ((1 : Int) ≤ (len0 : Int)) = true ∧ decide ((len0 : Int) ≤ 8) = true ∧ decide ((len2 : Int) ≤ 16) = sz) := by
    rw [HS.out]
    by_cases h1 : 1 ≤ len0
    · by_cases h2 : len0 ≤ 8
      · refine .inr (.inr ⟨decide_eq_true (by omega), decide_eq_true (by omega), ?_⟩)
        by_cases h3 : len2 ≤ 16
        · rw [decide_eq_true (show (len2 : Int) ≤ 16 by omega), decide_eq_true (show 1 ≤ len0 ∧ len0 ≤ 8 ∧ len2 ≤ 16 from ⟨h1, h2, h3⟩)]
        · rw [decide_eq_false (show ¬ (len2 : Int) ≤ 16 by omega), decide_eq_false (show ¬ (1 ≤ len0 ∧ len0 ≤ 8 ∧ len2 ≤ 16) by omega)]
      · exact .inr (.inl ⟨decide_eq_true (by omega), decide_eq_false (by omega), decide_eq_false (by omega)⟩)
    · exact .inl ⟨decide_eq_false (by omega), decide_eq_false (by omega)⟩
  have HR2 : Hid (RamAt y2 r fb g (List.range n) (List.replicate (64 * n) 0) ∧ Keep [] w y2) := Lib.hid ⟨H1.out.1.keep0 H2.out.2, H1.out.2.1.trans H2.out.2⟩
  have HBAD : Hid (sz = false → len0 = 0 ∨ 8 < len0 ∨ 16 < len2) := Lib.hid (fun h => by
    have := HS.out
    rw [h] at this
    have := of_decide_eq_false this.symm
    omega)
  have HPM : Hid (p < y2.heap.size ∧ pm < y2.heap.size) := Lib.hid ⟨lt_of_heap H2.out.1.1, H2.out.1.2.lt⟩
  have HGL : Hid (w.heap.size ≤ g) := Lib.hid H1.out.2.2.2.2
  clear H1 H2
  rcases hcase with ⟨d1, rfl⟩ | ⟨d1, d2, rfl⟩ | ⟨d1, d2, d3⟩
  · have HB0 := Lib.hid (HBAD.out rfl)
    have h0 : decide (0 < len0) = false := by have := of_decide_eq_false d1; exact decide_eq_false (by omega)
    go_wp2_with fail
    refine wp_loop_rounds 1 ?_
    rw [rounds_succ]
    go_wp2_with fail
    refine (spnew_args HR2.out.1 s0 len0 cap0 p s2 len2 cap2 HB0.out).mono ?_
    rintro e y3 ⟨rfl, rfl⟩
    go_wp2_with fail
    refine (spworks_at _).mono ?_
    rintro e z5 ⟨rfl, hk5⟩
    have HF : Hid (Below w.heap.size w z5) := Lib.hid ((HR2.out.2.trans hk5).below (Nat.le_refl _) (by simp))
    clear hk5
    go_wp2_with fail
    go_ret
    exact ⟨rfl, HF.out⟩
  · have HB0 := Lib.hid (HBAD.out rfl)
    have h0 : decide (0 < len0) = true := by have := of_decide_eq_true d1; exact decide_eq_true (by omega)
    go_wp2_with fail
    refine wp_loop_rounds 1 ?_
    rw [rounds_succ]
    go_wp2_with fail
    refine (spnew_args HR2.out.1 s0 len0 cap0 p s2 len2 cap2 HB0.out).mono ?_
    rintro e y3 ⟨rfl, rfl⟩
    go_wp2_with fail
    refine (spworks_at _).mono ?_
    rintro e z5 ⟨rfl, hk5⟩
    have HF : Hid (Below w.heap.size w z5) := Lib.hid ((HR2.out.2.trans hk5).below (Nat.le_refl _) (by simp))
    clear hk5
    go_wp2_with fail
    go_ret
    exact ⟨rfl, HF.out⟩
  · have hl1 : 1 ≤ len0 := by have := of_decide_eq_true d1; omega
    have hl8 : len0 ≤ 8 := by have := of_decide_eq_true d2; omega
    obtain ⟨lb, off, rfl, hc⟩ : ∃ lb off, s0 = some ⟨lb, off, none⟩ ∧ ∀ i, i < len0 → y2.cell? ⟨lb, off + i, none⟩ = some (.int .i64 (z i)) ∧ -9223372036854775808 ≤ z i ∧ z i ≤ 9223372036854775807 := by
      rcases HD.out.2 with h | ⟨lb, off, h1, _, h2⟩
      · omega
      · exact ⟨lb, off, h1, fun i hi => ⟨HR2.out.2.cell (h2 i hi).1 (by simp), (h2 i hi).2⟩⟩
    have HC := Lib.hid hc
    have HLL := Lib.hid (And.intro hl1 hl8)
    have t5 : IntKind.i64.wrap ((n : Int) - 1) = (n : Int) - 1 := IntWalk.i64_in _ (by omega)
    clear hc hl1
    go_wp2_with fail
    go_loopw [12, 13, 14] (fun mv kv jv wr => ∃ (m : Bool) (k : Nat) (j : Value), mv = .bool m ∧ kv = .int .i64 k ∧ jv = j ∧ k ≤ len0 ∧ Hid (MayO sz z n len0 k m ∧ Keep [] y2 wr)) (fun _ kv _ _ => 9 - (intOf kv).toNat)
    case atStart => exact ⟨sz, 0, _, rfl, rfl, rfl, by omega, Lib.hid ⟨by cases sz; exact .inr ⟨rfl, fun h => by cases h.1⟩; exact .inl ⟨rfl, rfl, fun i h => by omega⟩, Keep.refl _ _⟩⟩
    case round =>
      obtain ⟨m, k, jv, rfl, rfl, rfl, hk1, HJ⟩ := hrel
      rename World => wo
      by_cases hgo : k < len0 ∧ m = true
      · obtain ⟨hkl, rfl⟩ := hgo
        have hG : sz = true ∧ ∀ i, i < k → goodK z n i := by
          rcases HJ.out.1 with ⟨_, h⟩ | ⟨h, _⟩
          · exact h
          · cases h
        have HG := Lib.hid (And.intro hG (And.intro hkl HJ.out.2))
        have hk0 : (0 : Int) ≤ (k : Int) := by omega
        have hk3 : decide (k < len0) = true := decide_eq_true (by omega)
        have hk4 : k < len0 := hkl
        have hk5 : (k : Int) < (len0 : Int) := by omega
        have hck := HJ.out.2.cell (HC.out k hkl).1 (by simp)
        have hzk := (HC.out k hkl).2
        obtain ⟨zk, hzkd⟩ : ∃ a, a = z k := ⟨_, rfl⟩
        rw [← hzkd] at hck hzk
        have HZK := Lib.hid hzkd
        obtain ⟨rg, hrg⟩ : ∃ b, b = decide (0 ≤ zk ∧ zk < (n : Int) - 1) := ⟨_, rfl⟩
        have HRG := Lib.hid hrg
        have hrc : (decide (0 ≤ zk) = false ∧ rg = false) ∨ (decide (0 ≤ zk) = true ∧ decide (zk < (n : Int) - 1) = rg) := by
          rw [hrg]
          by_cases h : 0 ≤ zk
          · refine .inr ⟨decide_eq_true h, ?_⟩
            by_cases h2 : zk < (n : Int) - 1
            · rw [decide_eq_true h2, decide_eq_true (show 0 ≤ zk ∧ zk < (n : Int) - 1 from ⟨h, h2⟩)]
            · rw [decide_eq_false h2, decide_eq_false (show ¬ (0 ≤ zk ∧ zk < (n : Int) - 1) by omega)]
          · exact .inl ⟨decide_eq_false h, decide_eq_false (by omega)⟩
        clear HJ hkl hG hzkd hrg hk1
        have HNO : Hid (rg = false → ¬ goodK z n k) := Lib.hid (fun h hg => by
          have := HRG.out
          rw [h, HZK.out] at this
          exact of_decide_eq_false this.symm hg.1)
        have HNX : Hid (∀ (m' : Bool) (wr : World), ((m' = true ∧ goodK z n k) ∨ (m' = false ∧ ¬ goodK z n k)) → Keep [] wo wr → MayO sz z n len0 (k + 1) m' ∧ Keep [] y2 wr) := Lib.hid (fun m' wr h hk => by
          refine ⟨?_, HG.out.2.2.trans hk⟩
          rcases h with ⟨h1, h2⟩ | ⟨h1, h2⟩
          · refine .inl ⟨h1, HG.out.1.1, fun i hi => ?_⟩
            rcases (by omega : i < k ∨ i = k) with q | rfl
            · exact HG.out.1.2 i q
            · exact h2
          · exact .inr ⟨h1, fun h => h2 (h.2 k HG.out.2.1)⟩)
        have hkb : k < 8 := by have := HG.out.2.1; omega
        rcases hrc with ⟨q1, rfl⟩ | ⟨q1, q2⟩
        · have HN1 := Lib.hid (HNX.out false wo (.inr ⟨rfl, HNO.out rfl⟩) (Keep.refl _ _))
          have h0k : decide (0 < k) = false ∨ decide (0 < k) = true := by cases decide (0 < k); exact .inl rfl; exact .inr rfl
          clear HNX
          rcases h0k with h0k | h0k
          all_goals
            go_wp2_with fail
            refine wp_loop_rounds 1 ?_
            rw [rounds_succ]
            go_wp2_with fail
            go_roundw
            case rel => exact ⟨false, k + 1, _, rfl, by go_num, rfl, by have := HG.out.2.1; omega, HN1⟩
            case measure => simp [intOf]; omega
        · have w1 : rg = true → IntKind.i64.wrap (zk - 1) = zk - 1 ∧ IntKind.i64.wrap (zk + 1) = zk + 1 := fun h => by
            have := HRG.out
            rw [h] at this
            have := of_decide_eq_true this.symm
            exact ⟨IntWalk.i64_in _ (by omega), IntWalk.i64_in _ (by omega)⟩
          have HW := Lib.hid w1
          clear w1
          go_wp2_with fail
          go_loopw [12, 14] (fun mv jv wr => ∃ (m' : Bool) (j : Nat), mv = .bool m' ∧ jv = .int .i64 j ∧ j ≤ k ∧ Hid (MayJ rg z n k j zk m' ∧ Keep [] wo wr)) (fun _ jv _ => 9 - (intOf jv).toNat)
          case atStart => exact ⟨rg, 0, rfl, rfl, by omega, Lib.hid ⟨by cases hr : rg; exact .inr ⟨rfl, HNO.out hr⟩; exact .inl ⟨rfl, rfl, fun i h => by omega⟩, Keep.refl _ _⟩⟩
          case round =>
            obtain ⟨m', j, rfl, rfl, hj1, HI⟩ := hrel
            rename World => wi
            by_cases hgo : j < k ∧ m' = true
            · obtain ⟨hjl, rfl⟩ := hgo
              have hF : rg = true ∧ ∀ i, i < j → farI (z i) zk := by
                rcases HI.out.1 with ⟨_, h⟩ | ⟨h, _⟩
                · exact h
                · cases h
              obtain ⟨w1, w2⟩ := HW.out hF.1
              have HFJ := Lib.hid (And.intro hF (And.intro hjl HI.out.2))
              have hj0 : (0 : Int) ≤ (j : Int) := by omega
              have hj3 : decide (j < k) = true := decide_eq_true (by omega)
              have hj4 : j < k := hjl
              have hjn : (j : Int) < (len0 : Int) := by have := HG.out.2.1; omega
              have hkn : (k : Int) < (len0 : Int) := by have := HG.out.2.1; omega
              have hky : Keep [] y2 wi := HG.out.2.2.trans HI.out.2
              have hcj := hky.cell (HC.out j (by have := HG.out.2.1; omega)).1 (by simp)
              have hck2 := HI.out.2.cell hck (by simp)
              obtain ⟨zj, hzj⟩ : ∃ a, a = z j := ⟨_, rfl⟩
              rw [← hzj] at hcj
              have HZJ := Lib.hid hzj
              have HBD : Hid (¬ farI zj zk → ¬ goodK z n k) := Lib.hid (fun h hg => h (by rw [HZJ.out, HZK.out]; exact hg.2 j hjl))
              have HGD : Hid (∀ d, farI zj zk → MayJ rg z n k (j + 1) zk true ∧ Keep [] wo (wi.drewN d)) := Lib.hid (fun d h => ⟨.inl ⟨rfl, HFJ.out.1.1, fun i hi => by
                rcases (by omega : i < j ∨ i = j) with q | rfl
                · exact HFJ.out.1.2 i q
                · rw [← HZJ.out]; exact h⟩, HFJ.out.2.2.drewN d⟩)
              have HBX : Hid (∀ d, ¬ farI zj zk → MayJ rg z n k (j + 1) zk false ∧ Keep [] wo (wi.drewN d)) := Lib.hid (fun d h => ⟨.inr ⟨rfl, HBD.out h⟩, HFJ.out.2.2.drewN d⟩)
              have hc4 : ((zj != zk) = false ∧ ¬ farI zj zk) ∨ ((zj != zk) = true ∧ (zj != zk - 1) = false ∧ ¬ farI zj zk) ∨ ((zj != zk) = true ∧ (zj != zk - 1) = true ∧ (zj != zk + 1) = false ∧ ¬ farI zj zk) ∨ ((zj != zk) = true ∧ (zj != zk - 1) = true ∧ (zj != zk + 1) = true ∧ farI zj zk) := by
                unfold farI
                simp only [bne_iff_ne, bne_eq_false_iff_eq, ne_eq]
                omega
              clear hjl hF HI hzj hky hj1 hck
              rcases hc4 with ⟨x1, hf⟩ | ⟨x1, x2, hf⟩ | ⟨x1, x2, x3, hf⟩ | ⟨x1, x2, x3, hf⟩
              · go_wp2_with fail
                go_quiet (fail)
                go_wp2_with fail
                go_roundw
                case rel => exact ⟨false, j + 1, rfl, by go_num, by have := HFJ.out.2.1; omega, Lib.hid (HBX.out _ hf)⟩
                case measure => simp [intOf]; have := HFJ.out.2.1; omega
              · go_wp2_with fail
                go_quiet (fail)
                go_wp2_with fail
                go_roundw
                case rel => exact ⟨false, j + 1, rfl, by go_num, by have := HFJ.out.2.1; omega, Lib.hid (HBX.out _ hf)⟩
                case measure => simp [intOf]; have := HFJ.out.2.1; omega
              · go_wp2_with fail
                go_quiet (fail)
                go_wp2_with fail
                go_roundw
                case rel => exact ⟨false, j + 1, rfl, by go_num, by have := HFJ.out.2.1; omega, Lib.hid (HBX.out _ hf)⟩
                case measure => simp [intOf]; have := HFJ.out.2.1; omega
              · go_wp2_with fail
                go_quiet (fail)
                go_wp2_with fail
                go_roundw
                case rel => exact ⟨true, j + 1, rfl, by go_num, by have := HFJ.out.2.1; omega, Lib.hid (HGD.out _ hf)⟩
                case measure => simp [intOf]; have := HFJ.out.2.1; omega
            · have HN1 : Hid (MayO sz z n len0 (k + 1) m' ∧ Keep [] y2 wi) := Lib.hid (HNX.out m' wi (by
                rcases HI.out.1 with ⟨h1, h2, h3⟩ | h
                · refine .inl ⟨h1, ?_⟩
                  have hjk : j = k := by
                    by_cases h : j < k
                    · exact absurd ⟨h, h1⟩ hgo
                    · omega
                  have := HRG.out
                  rw [h2] at this
                  have := of_decide_eq_true this.symm
                  rw [HZK.out] at this
                  refine ⟨this, fun i hi => ?_⟩
                  rw [← HZK.out]
                  exact h3 i (by omega)
                · exact .inr h) HI.out.2)
              have hex : (decide (j < k) = false ∧ ¬ (j < k)) ∨ ((decide (j < k) = true ∧ j < k) ∧ m' = false) := by
                by_cases h : j < k
                · refine .inr ⟨⟨decide_eq_true (by omega), h⟩, ?_⟩
                  cases m' with
                  | false => rfl
                  | true => exact absurd ⟨h, rfl⟩ hgo
                · exact .inl ⟨decide_eq_false (by omega), h⟩
              clear hgo HI hj1 HNX
              rcases hex with ⟨x1, x2⟩ | ⟨⟨x1, x2⟩, rfl⟩
              all_goals
                go_wp2_with fail
                go_roundw
                case rel => exact ⟨_, k + 1, _, rfl, by go_num, rfl, by have := HG.out.2.1; omega, HN1⟩
                case measure => simp [intOf]; omega
      · have hmk : m = true → k = len0 := fun h => by
          by_cases h2 : k < len0
          · exact absurd ⟨h2, h⟩ hgo
          · omega
        have CN : Hid (Calls Try.prog 34 #[.pointer (some ⟨r, 0, none⟩), .slice (some ⟨lb, off, none⟩) len0 cap0, .pointer (some ⟨p, 0, none⟩), .slice s2 len2 cap2] wo (BegN m r fb g p pm n ((List.range len0).map z) w wo)) := Lib.hid (by
          have hkw : Keep [] w wo := HR2.out.2.trans HJ.out.2
          have hRw := HR2.out.1.keep0 HJ.out.2
          by_cases hsz : sz = true
          · have hok := HS.out
            rw [hsz] at hok
            have hok := of_decide_eq_true hok.symm
            obtain ⟨us, hus, hU⟩ := HU.out hok.2.2
            have hpl : p < wo.heap.size ∧ pm < wo.heap.size := by have := HPM.out; have := HJ.out.2.size; omega
            have hD : DirsAt wo (some ⟨lb, off, none⟩) ((List.range len0).map z) := by
              rcases HD.out.1 with h | ⟨b1, b2, h1, h2, h3⟩
              · exact .inl h
              · exact .inr ⟨b1, b2, h1, Nat.lt_of_lt_of_le h2 hkw.size, fun i hi => hkw.cell (h3 i hi) (by simp)⟩
            have C := spnew_at (cap := cap0) (uc := cap2) hRw (by omega) hpl (by simp; omega) (by simp; omega) hD (hU.keep hkw (by simp))
            have hzl : ((List.range len0).map z).length = len0 := by simp
            rw [hzl, hus] at C
            refine C.mono ?_
            have hif := dirsB_iff z (n := n) hok.1 (by omega)
            rintro e y (⟨h1, h2, h3⟩ | ⟨h1, h2⟩)
            · refine .inl ⟨?_, h2, hkw.trans h3⟩
              rcases HJ.out.1 with ⟨h4, h5, h6⟩ | h
              · rw [hmk h4] at h6
                rw [hif.2 h6] at h1; cases h1
              · exact h.1
            · refine .inr ⟨?_, us, h2⟩
              rcases HJ.out.1 with h | ⟨h4, h5⟩
              · exact h.1
              · exact absurd ⟨hsz, hif.1 h1⟩ h5
          · have hsf : sz = false := by simpa using hsz
            refine (spnew_args hRw _ len0 cap0 p s2 len2 cap2 (HBAD.out hsf)).mono ?_
            rintro e y ⟨h1, h2⟩
            refine .inl ⟨?_, h1, by rw [← h2]; exact hkw⟩
            rcases HJ.out.1 with ⟨h4, h5, _⟩ | h
            · exact absurd h5 hsz
            · exact h.1)
        have HKW : Hid (Keep [] w wo) := Lib.hid (HR2.out.2.trans HJ.out.2)
        have hex : (decide (k < len0) = false ∧ ¬ (k < len0)) ∨ ((decide (k < len0) = true ∧ k < len0) ∧ m = false) := by
          by_cases h : k < len0
          · refine .inr ⟨⟨decide_eq_true (by omega), h⟩, ?_⟩
            cases m with
            | false => rfl
            | true => exact absurd ⟨h, rfl⟩ hgo
          · exact .inl ⟨decide_eq_false (by omega), h⟩
        clear hgo HJ hk1 hmk
        rcases hex with ⟨x1, x2⟩ | ⟨⟨x1, x2⟩, rfl⟩
        all_goals
          go_wp2_with fail
          refine CN.out.mono ?_
          rintro e y3 hB
          unfold BegN at hB
          rcases hB with ⟨hmf, rfl, hk3⟩ | ⟨hmt, us, hN⟩
          · (try subst hmf)
            have HK3 := Lib.hid hk3
            clear hk3 CN
            go_wp2_with fail
            refine (spworks_at _).mono ?_
            rintro e z5 ⟨rfl, hk5⟩
            have HF : Hid (Below w.heap.size w z5) := Lib.hid ((HK3.out.trans hk5).below (Nat.le_refl _) (by simp))
            clear hk5
            go_wp2_with fail
            go_ret
            exact ⟨rfl, HF.out⟩
          · first
              | (exfalso; cases hmt; done)
              | (subst hmt
                 obtain ⟨q, sh, f, ga, gc, ea, ec, rfl, hQ, -, -, -, hk3⟩ := hN
                 have HQ := Lib.hid hQ
                 have HK3 : Hid (∀ z5, Keep [] y3 z5 → Below w.heap.size w z5) := Lib.hid (fun z5 h => ((HKW.out.weaken (by simp)).trans (hk3.trans (h.weaken (by simp)))).below (l := [g]) (Nat.le_refl _) (by simpa using HGL.out))
                 clear hQ hk3 CN
                 go_wp2_with fail
                 refine (root_off HQ.out.cellsU.1 HQ.out.cellsU.2.2).mono ?_
                 rintro e y4 ⟨rfl, rfl⟩
                 go_wp2_with fail
                 refine (spkeys_at HQ.out).mono ?_
                 rintro e y4 ⟨v, rfl, hrow, hk4⟩
                 have hfil : (List.range ((List.range len0).map z).length).reverse.filter A0.tk = [] := by
                   rw [List.filter_eq_nil_iff]
                   intro a _ h
                   cases h
                 rw [hfil] at hrow
                 obtain ⟨va, vc, rfl⟩ := own_form hrow
                 have HQ4 := Lib.hid (HQ.out.keep0 hk4)
                 have HK4 := Lib.hid hk4
                 clear hrow hk4 hfil
                 go_wp2_with fail
                 refine (put_off HQ4.out.cellsU.1 HQ4.out.cellsU.2.2 0 0 1).mono ?_
                 rintro e y5 ⟨rfl, rfl⟩
                 go_wp2_with fail
                 refine (spworks_at _).mono ?_
                 rintro e z5 ⟨rfl, hk5⟩
                 have HF : Hid (Below w.heap.size w z5) := Lib.hid (HK3.out _ (HK4.out.trans hk5))
                 clear hk5
                 go_wp2_with fail
                 go_ret
                 exact ⟨rfl, HF.out⟩)
end Go.Proofs.Ytpinoejckagjbaa
