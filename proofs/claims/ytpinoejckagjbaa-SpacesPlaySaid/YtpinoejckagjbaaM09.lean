/- Contracts of the functions that the law reaches, walked, and the plain laws on them (several texts in one). -/
import Derived.Deep.MidRow
import Derived.Outline
import Derived.Test.YtpinoejckagjbaaM07
import Derived.Test.YtpinoejckagjbaaM08
import Derived.Test.YtpinoejckagjbaaM01
import Derived.Test.YtpinoejckagjbaaM04

/- A Shadow as it lies in the memory of the program. -/
namespace Go.Proofs.Ytpinoejckagjbaa
open Go.RowKit Go.Mum
set_option linter.unusedVariables false
set_option linter.unusedSimpArgs false
set_option maxRecDepth 100000

/-- The cells of a Shadow. -/
def shCell (r p : Nat) (dir : Int) (T : Nat → Tab) (j : Nat) : Value :=
  if j = 0 then .pointer (some ⟨r, 0, none⟩) else if j = 1 then .pointer (some ⟨p, 0, none⟩) else if j = 2 then .int .i64 dir else if j = 579 then .slice none 0 0 else
  if (j - 3) % 18 = 0 then .bool (T ((j - 3) / 18)).th else if (j - 3) % 18 = 1 then .int .i64 ((T ((j - 3) / 18)).fr : Nat) else .int .u32 (((T ((j - 3) / 18)).en ((j - 3) % 18 - 2) : Nat))

def ShAt (x : World) (s r p : Nat) (dir : Int) (T : Nat → Tab) : Prop := ArrAt x s 112 580 (shCell r p dir T)

section
variable {w x : World} {s r p : Nat} {dir : Int} {T : Nat → Tab}

theorem ShAt.keep {l : List Nat} (h : ShAt w s r p dir T) (hk : Keep l w x) (hn : s ∉ l) : ShAt x s r p dir T := ArrAt.keep h hk hn

theorem ShAt.ext {T' : Nat → Tab} (h : ShAt w s r p dir T) (he : ∀ n, n < 32 → (T n).th = (T' n).th ∧ (T n).fr = (T' n).fr ∧ ∀ k, k < 16 → (T n).en k = (T' n).en k) : ShAt w s r p dir T' := by
  refine ArrAt.ext h (fun j hj => ?_)
  unfold shCell
  by_cases h0 : j = 0
  · simp [h0]
  by_cases h1 : j = 1
  · simp [h1]
  by_cases h2 : j = 2
  · simp [h2]
  by_cases h3 : j = 579
  · simp [h3]
  obtain ⟨a, b, c⟩ := he ((j - 3) / 18) (by omega)
  rw [if_neg h0, if_neg h1, if_neg h2, if_neg h3, if_neg h0, if_neg h1, if_neg h2, if_neg h3, a, b]
  by_cases h4 : (j - 3) % 18 = 0
  · rw [if_pos h4, if_pos h4]
  by_cases h5 : (j - 3) % 18 = 1
  · rw [if_neg h4, if_neg h4, if_pos h5, if_pos h5]
  rw [if_neg h4, if_neg h4, if_neg h5, if_neg h5, c _ (by omega)]

theorem ShAt.heads (h : ShAt w s r p dir T) : w.cell? ⟨s, 0, none⟩ = some (.pointer (some ⟨r, 0, none⟩)) ∧ w.cell? ⟨s, 1, none⟩ = some (.pointer (some ⟨p, 0, none⟩)) ∧ w.cell? ⟨s, 2, none⟩ = some (.int .i64 dir) ∧ w.cell? ⟨s, 579, none⟩ = some (.slice none 0 0) := by
  refine ⟨?_, ?_, ?_, ?_⟩
  all_goals
    rw [ArrAt.cell h (by omega)]
    rfl

theorem shCell_th {n : Nat} (hn : n < 32) : shCell r p dir T (3 + n * 18) = .bool (T n).th := by
  unfold shCell
  rw [if_neg (by omega), if_neg (by omega), if_neg (by omega), if_neg (by omega), if_pos (by omega), show (3 + n * 18 - 3) / 18 = n by omega]

theorem shCell_fr {n : Nat} (hn : n < 32) : shCell r p dir T (3 + n * 18 + 1) = .int .i64 ((T n).fr : Nat) := by
  unfold shCell
  rw [if_neg (by omega), if_neg (by omega), if_neg (by omega), if_neg (by omega), if_neg (by omega), if_pos (by omega), show (3 + n * 18 + 1 - 3) / 18 = n by omega]

theorem shCell_en {n k : Nat} (hn : n < 32) (hk : k < 16) : shCell r p dir T (3 + n * 18 + 2 + k) = .int .u32 ((T n).en k : Nat) := by
  unfold shCell
  rw [if_neg (by omega), if_neg (by omega), if_neg (by omega), if_neg (by omega), if_neg (by omega), if_neg (by omega), show (3 + n * 18 + 2 + k - 3) / 18 = n by omega, show (3 + n * 18 + 2 + k - 3) % 18 - 2 = k by omega]

theorem ShAt.th (h : ShAt w s r p dir T) {n : Nat} (hn : n < 32) : w.cell? ⟨s, 3 + n * 18, none⟩ = some (.bool (T n).th) := by
  rw [ArrAt.cell h (by omega), shCell_th hn]

theorem ShAt.fr (h : ShAt w s r p dir T) {n : Nat} (hn : n < 32) : w.cell? ⟨s, 3 + n * 18 + 1, none⟩ = some (.int .i64 ((T n).fr : Nat)) := by
  rw [ArrAt.cell h (by omega), shCell_fr hn]

theorem ShAt.en (h : ShAt w s r p dir T) {n k : Nat} (hn : n < 32) (hk : k < 16) : w.cell? ⟨s, 3 + n * 18 + 2 + k, none⟩ = some (.int .u32 ((T n).en k : Nat)) := by
  rw [ArrAt.cell h (by omega), shCell_en hn hk]

theorem ShAt.frozen (h : ShAt w s r p dir T) (j : Nat) : w.frozen? ⟨s, j, none⟩ = false := ArrAt.frozen h j

/-- An entry is laid. -/
theorem ShAt.lay (h : ShAt w s r p dir T) {n k e : Nat} (hn : n < 32) (hk : k < 16) : ShAt (w.setCell ⟨s, 3 + n * 18 + 2 + k, none⟩ (.int .u32 e)) s r p dir (setTab T n (setEn (T n) k e)) := by
  refine ArrAt.ext (ArrAt.set h _ _) (fun j hj => ?_)
  by_cases hj0 : j = 3 + n * 18 + 2 + k
  · rw [if_pos hj0, hj0, shCell_en hn hk, setTab_same]
    show _ = Value.int .u32 (((if k = k then e else (T n).en k) : Nat) : Int)
    rw [if_pos rfl]
  · rw [if_neg hj0]
    unfold shCell
    by_cases h0 : j = 0
    · simp [h0]
    by_cases h1 : j = 1
    · simp [h1]
    by_cases h2 : j = 2
    · simp [h2]
    by_cases h3 : j = 579
    · simp [h3]
    rw [if_neg h0, if_neg h1, if_neg h2, if_neg h3, if_neg h0, if_neg h1, if_neg h2, if_neg h3]
    by_cases hm : (j - 3) / 18 = n
    · rw [hm, setTab_same]
      show _ = if (j - 3) % 18 = 0 then Value.bool (T n).th else if (j - 3) % 18 = 1 then .int .i64 ((T n).fr : Nat) else .int .u32 ((if (j - 3) % 18 - 2 = k then e else (T n).en ((j - 3) % 18 - 2) : Nat))
      by_cases h4 : (j - 3) % 18 = 0
      · rw [if_pos h4, if_pos h4]
      by_cases h5 : (j - 3) % 18 = 1
      · rw [if_neg h4, if_neg h4, if_pos h5, if_pos h5]
      rw [if_neg h4, if_neg h4, if_neg h5, if_neg h5, if_neg (by omega)]
    · rw [setTab_ne hm]

theorem sets_at {g : Nat} {t : TypeId} {n : Nat} : ∀ (vs : List Value) (o : Nat) (w : World) (f : Nat → Value), ArrAt w g t n f → ArrAt (w.setCells g o vs) g t n (fun j => if o ≤ j ∧ j < o + vs.length then vs.getD (j - o) undef else f j)
  | [], o, w, f, h => ArrAt.ext h (fun j _ => by rw [if_neg (by rw [List.length_nil]; omega)])
  | v :: vs, o, w, f, h => by
    refine ArrAt.ext (sets_at vs (o + 1) _ _ (ArrAt.set h o v)) (fun j hj => ?_)
    by_cases h1 : j = o
    · subst h1
      rw [if_neg (by omega), if_pos rfl, if_pos (by simp)]
      simp
    · by_cases h2 : o + 1 ≤ j ∧ j < o + 1 + vs.length
      · rw [if_pos h2, if_pos (by simp; omega), show j - o = (j - (o + 1)) + 1 by omega]
        rfl
      · rw [if_neg h2, if_neg h1, if_neg (by simp; omega)]

theorem keepSets {l : List Nat} {b : Nat} (hb : b ∈ l ∨ w.heap.size ≤ b) : ∀ (vs : List Value) (o : Nat) (x : World), Keep l w x → Keep l w (x.setCells b o vs)
  | [], o, x, h => h
  | v :: vs, o, x, h => keepSets hb vs (o + 1) _ (h.setCell hb v)

/-- The cells of a table. -/
def tabL (t : Tab) : List Value := .bool t.th :: .int .i64 (t.fr : Nat) :: (List.range 16).map (fun k => .int .u32 (t.en k : Nat))

theorem tabL_len (t : Tab) : (tabL t).length = 18 := by simp [tabL]

theorem tabL_at (t : Tab) {i : Nat} (hi : i < 18) : (tabL t).getD i undef = if i = 0 then .bool t.th else if i = 1 then .int .i64 (t.fr : Nat) else .int .u32 ((t.en (i - 2)) : Nat) := by
  match i, hi with
  | 0, _ => rfl
  | 1, _ => rfl
  | i + 2, h =>
    rw [if_neg (by omega), if_neg (by omega)]
    show ((List.range 16).map (fun k => Value.int .u32 (t.en k : Nat))).getD i undef = _
    rw [List.getD_eq_getElem?_getD, List.getElem?_map, List.getElem?_range (by omega)]
    rfl

/-- A table is set whole. -/
theorem ShAt.table (h : ShAt w s r p dir T) {n : Nat} (hn : n < 32) (t : Tab) : ShAt (w.setCells s (3 + n * 18) (tabL t)) s r p dir (setTab T n t) := by
  refine ArrAt.ext (sets_at (tabL t) (3 + n * 18) w _ h) (fun j hj => ?_)
  rw [tabL_len]
  by_cases hin : 3 + n * 18 ≤ j ∧ j < 3 + n * 18 + 18
  · rw [if_pos hin, tabL_at t (by omega)]
    unfold shCell
    rw [if_neg (show ¬ j = 0 by omega), if_neg (show ¬ j = 1 by omega), if_neg (show ¬ j = 2 by omega), if_neg (show ¬ j = 579 by omega), show (j - 3) / 18 = n by omega, setTab_same, show (j - 3) % 18 = j - (3 + n * 18) by omega]
  · rw [if_neg hin]
    unfold shCell
    by_cases h0 : j = 0
    · simp [h0]
    by_cases h1 : j = 1
    · simp [h1]
    by_cases h2 : j = 2
    · simp [h2]
    by_cases h3 : j = 579
    · simp [h3]
    rw [if_neg h0, if_neg h1, if_neg h2, if_neg h3, if_neg h0, if_neg h1, if_neg h2, if_neg h3, setTab_ne (by omega)]

/-- The tables, cell by cell. -/
def tabsL (T : Nat → Tab) : List Value := (List.range 576).map (fun j => shCell 0 0 0 T (j + 3))

theorem tabsL_len : (tabsL T).length = 576 := by simp [tabsL]

theorem shCell_body {j : Nat} (h0 : 3 ≤ j) (h1 : j < 579) : shCell r p dir T j = shCell 0 0 0 T j := by
  unfold shCell
  rw [if_neg (show ¬ j = 0 by omega), if_neg (show ¬ j = 1 by omega), if_neg (show ¬ j = 2 by omega), if_neg (show ¬ j = 579 by omega), if_neg (show ¬ j = 0 by omega), if_neg (show ¬ j = 1 by omega), if_neg (show ¬ j = 2 by omega)]

theorem tabsL_at {j : Nat} (hj : j < 576) : (tabsL T).getD j undef = shCell 0 0 0 T (j + 3) := by
  unfold tabsL
  rw [List.getD_eq_getElem?_getD, List.getElem?_map, List.getElem?_range hj]
  rfl

theorem tabsL_get {j : Nat} (hj : j < 576) : (tabsL T)[j]? = some (shCell 0 0 0 T (j + 3)) := by
  unfold tabsL
  rw [List.getElem?_map, List.getElem?_range hj]
  rfl

theorem ShAt.range (h : ShAt w s r p dir T) : w.rangeAt s 3 (tabsL T) := fun j v hj => by
  obtain ⟨hlt, _⟩ := List.getElem?_eq_some_iff.1 hj
  rw [tabsL_len] at hlt
  rw [tabsL_get hlt] at hj
  rw [ArrAt.cell h (by omega), shCell_body (by omega) (by omega), Nat.add_comm 3 j]
  exact hj

/-- All tables are set. -/
theorem ShAt.tables (h : ShAt w s r p dir T) (T' : Nat → Tab) : ShAt (w.setCells s 3 (tabsL T')) s r p dir T' := by
  refine ArrAt.ext (sets_at (tabsL T') 3 w _ h) (fun j hj => ?_)
  rw [tabsL_len]
  by_cases hin : 3 ≤ j ∧ j < 3 + 576
  · rw [if_pos hin, tabsL_at (by omega), show j - 3 + 3 = j by omega, shCell_body (r := r) (p := p) (dir := dir) (T := T') (by omega) (by omega)]
  · rw [if_neg hin]
    unfold shCell
    by_cases h0 : j = 0
    · simp [h0]
    by_cases h1 : j = 1
    · simp [h1]
    by_cases h2 : j = 2
    · simp [h2]
    have h3 : j = 579 := by omega
    simp [h3]

end
end Go.Proofs.Ytpinoejckagjbaa

/- The small calls of a Shadow. -/
namespace Go.Proofs.Ytpinoejckagjbaa
open Go.RowKit Go.Mum
set_option linter.unusedVariables false
set_option linter.unusedSimpArgs false
set_option maxRecDepth 100000

theorem keepSet {l : List Nat} {w x : World} (h : Keep l w x) {b : Nat} (hb : b ∈ l) (i : Nat) (v : Value) : Keep l w (x.setCell ⟨b, i, none⟩ v) := h.setCell (.inl hb) v

theorem setword_c {w : World} {r fb g n : Nat} {L : List Int} (h : RamAt w r fb g (List.range n) L) (hl : L.length = 64 * n) (hn : n ≤ 512) (p z : Nat) (hp : p % 4 = 0 ∧ p + 4 ≤ 64 * n) (hz : z < 4294967296) :
    Calls Try.prog 82 #[.pointer (some ⟨r, 0, none⟩), .int .u32 p, .int .u32 z] w (fun e w' => e = .returned (.bool true) ∧ RamAt w' r fb g (List.range n) (splice L p (le4 z)) ∧ Keep [g] w w') := by
  refine (rsetword_any h p (by omega) z hz).mono ?_
  rintro e w' ⟨rfl, h2, h3⟩
  have hy : layB n p (le4 z).length 4 = true := layB_yes (by rw [le4_len]; exact hp)
  rw [List.length_range] at h2 ⊢
  rw [hy] at h2 ⊢
  rw [if_pos rfl, putAt_range n _ _ p (by rw [le4_len]; omega) hl] at h2
  exact ⟨rfl, h2, h3⟩

theorem fill_c {w : World} {r fb g n : Nat} {L : List Int} (h : RamAt w r fb g (List.range n) L) (hl : L.length = 64 * n) (hn : n ≤ 512) (p : Nat) {src : Option Addr} {c : Nat} {M : List Int} (hM : Row w src c M) (hs : ∀ b, src = some b → b.block ≠ g) (hp : p + M.length ≤ 64 * n) :
    Calls Try.prog 44 #[.pointer (some ⟨r, 0, none⟩), .int .u32 p, .slice src M.length c] w (fun e w' => e = .returned (.bool true) ∧ RamAt w' r fb g (List.range n) (splice L p M) ∧ Keep [g] w w') := by
  refine (rfill_all h p (by omega) hM (.inr hs) (by omega)).mono ?_
  rintro e w' ⟨rfl, h2, h3⟩
  have hy : layB n p M.length 1 = true := layB_yes (by omega)
  rw [List.length_range] at h2 ⊢
  rw [hy] at h2 ⊢
  rw [if_pos rfl, putAt_range n _ _ p hp hl] at h2
  exact ⟨rfl, h2, h3⟩

theorem snone_at {w : World} {s : Nat} {r : Option Addr} (h : w.cell? ⟨s, 0, none⟩ = some (.pointer r)) :
    Calls Try.prog 45 #[.pointer (some ⟨s, 0, none⟩)] w fun e w' => e = .returned (.bool (r == none)) ∧ w = w' := by
  cases r
  all_goals
    go_enter Try.func45, Try.ntmps45
    go_wp2_with fail
    go_ret
    exact ⟨rfl, rfl⟩

theorem snone_nil (w : World) :
    Calls Try.prog 45 #[.pointer none] w fun e w' => e = .returned (.bool true) ∧ w = w' := by
  go_enter Try.func45, Try.ntmps45
  go_wp2_with fail
  go_ret
  exact ⟨rfl, rfl⟩

theorem sroot_at {w : World} {s r : Nat} {dir : Nat} (h0 : w.cell? ⟨s, 0, none⟩ = some (.pointer (some ⟨r, 0, none⟩))) (h2 : w.cell? ⟨s, 2, none⟩ = some (.int .i64 dir)) (hd : dir ≤ 512) :
    Calls Try.prog 16 #[.pointer (some ⟨s, 0, none⟩)] w fun e w' => e = .returned (.int .u32 ((64 * dir : Nat) : Int)) ∧ w = w' := by
  have C := Lib.hid (snone_at h0)
  have e1 : IntKind.i64.wrap ((dir : Int) * 64) = (dir : Int) * 64 := IntWalk.i64_in _ (by omega)
  have e2 : IntKind.u32.wrap ((dir : Int) * 64) = (dir : Int) * 64 := IntWalk.u32_in _ (by omega)
  go_enter Try.func16, Try.ntmps16
  go_wp2_with fail
  refine C.out.mono ?_
  rintro e w' ⟨rfl, rfl⟩
  go_wp2_with fail
  go_ret
  exact ⟨by rw [show ((64 * dir : Nat) : Int) = (dir : Int) * 64 by omega]; rfl, rfl⟩

theorem sroot_nil (w : World) :
    Calls Try.prog 16 #[.pointer none] w fun e w' => e = .returned (.int .u32 0) ∧ w = w' := by
  go_enter Try.func16, Try.ntmps16
  go_wp2_with fail
  refine (snone_nil _).mono ?_
  rintro e w' ⟨rfl, rfl⟩
  go_wp2_with fail
  go_ret
  exact ⟨rfl, rfl⟩

theorem sframes_at {w : World} {v : Value} {n : Nat} (h : Sz w v n) :
    Calls Try.prog 46 #[v] w fun e w' => e = .returned (.int .i64 n) ∧ w = w' := by
  have hn := h.le
  have C := Lib.hid (rsize_any h)
  have e1 : (64 * (n : Int)) / 64 = (n : Int) := by omega
  have e2 : (64 * (n : Int)).tdiv 64 = (n : Int) := by rw [Int.tdiv_eq_ediv_of_nonneg (by omega)]; omega
  have e3 : IntKind.i64.wrap (64 * (n : Int)) = 64 * (n : Int) := IntWalk.i64_in _ (by omega)
  go_enter Try.func46, Try.ntmps46
  go_wp2_with fail
  refine C.out.mono ?_
  rintro e w' ⟨rfl, rfl⟩
  go_wp2_with fail
  go_ret
  exact ⟨rfl, rfl⟩

set_option maxHeartbeats 2000000 in
theorem slay_at {w : World} {s r fb g p : Nat} {T : Nat → Tab} {L : List Int} {most : Nat} (h : ShAt w s r p 8 T) (hR : RamAt w r fb g (List.range 40) L) (hI : ShInv most T L) (hs : s ≠ r ∧ s ≠ fb ∧ s ≠ g) (va e : Nat) (hv : va < 32768) (he : GoodE e) (ht : (T (va / 1024)).th = true) :
    Calls Try.prog 48 #[.pointer (some ⟨s, 0, none⟩), .int .u32 va, .int .u32 e] w fun en w' => ∃ v, en = .returned v ∧ ShAt w' s r p 8 (setTab T (va / 1024) (setEn (T (va / 1024)) (va / 64 % 16) e)) ∧ RamAt w' r fb g (List.range 40) (splice L (64 * (T (va / 1024)).fr + 4 * (va / 64 % 16)) (le4 e)) ∧ Keep [s, g] w w' := by
  obtain ⟨n, hn⟩ : ∃ n, n = va / 1024 := ⟨_, rfl⟩
  obtain ⟨k, hk⟩ : ∃ k, k = va / 64 % 16 := ⟨_, rfl⟩
  obtain ⟨fr, hfr⟩ : ∃ fr, fr = (T n).fr := ⟨_, rfl⟩
  rw [← hn] at ht ⊢
  rw [← hk, ← hfr]
  have n1 : (va : Int) / 1024 = (n : Int) := by omega
  have e15 : bits .and .u32 ((va : Int) / 64) 15 = (k : Int) := by
    have := mask_u32 (va / 64) 4 (by decide) 15 rfl (by omega)
    rw [show (((va / 64 : Nat)) : Int) = (va : Int) / 64 by omega] at this
    rw [this, hk]
  have hn32 : n < 32 := by omega
  have hk16 : k < 16 := by omega
  have hni : (n : Int) < 32 := by omega
  have hki : (k : Int) < 16 := by omega
  clear hn hk
  have hf := hI.frm n hn32 ht
  have hel : e < 4294967296 := by
    rcases he with rfl | ⟨f, b, h1, h2, _, rfl⟩
    · omega
    · omega
  obtain ⟨c0, c1, c2, c3⟩ := h.heads
  have cn := h.fr hn32
  have ck := h.en hn32 hk16
  have z0 := h.frozen (3 + n * 18 + 2 + k)
  go_enter Try.func48, Try.ntmps48
  go_wp2_with fail
  have hS := h.lay (e := e) hn32 hk16
  have hk := keepSet (Keep.refl [s, g] w) (b := s) (by simp) (3 + n * 18 + 2 + k) (.int .u32 e)
  have hR1 := hR.keep (keepSet (Keep.refl [s] w) (b := s) (by simp) (3 + n * 18 + 2 + k) (.int .u32 e)) (by simp; omega) (by simp; omega) (by simp; omega)
  generalize hy : World.setCell w _ _ = y at hS hk hR1 ⊢
  have HY := Lib.hid (And.intro hS (And.intro hk hR1))
  obtain ⟨d0, d1, d2, d3⟩ := hS.heads
  have dn := hS.fr hn32
  rw [setTab_same] at dn
  change y.cell? ⟨s, 3 + n * 18 + 1, none⟩ = some (.int .i64 ((T n).fr : Nat)) at dn
  rw [← hfr] at dn hf
  have HFR := Lib.hid hfr
  clear hfr
  have hm := hI.mst
  have a1 : IntKind.i64.wrap ((fr : Int) * 64) = (fr : Int) * 64 := IntWalk.i64_in _ (by omega)
  have a2 : IntKind.u32.wrap ((fr : Int) * 64) = (fr : Int) * 64 := IntWalk.u32_in _ (by omega)
  have a3 : IntKind.u32.wrap (4 * (k : Int)) = 4 * (k : Int) := IntWalk.u32_in _ (by omega)
  have a4 : IntKind.u32.wrap ((fr : Int) * 64 + 4 * (k : Int)) = ((64 * fr + 4 * k : Nat) : Int) := by rw [IntWalk.u32_in _ (by omega)]; omega
  clear hy hS hk hR1 cn ck z0 c0 c1 c2 c3 h hR d1 d2 d3
  refine wp_region_held_drew (S := fun x => x.cell? ⟨s, 0, none⟩ = some (.pointer (some ⟨r, 0, none⟩)) ∧ x.cell? ⟨s, 3 + n * 18 + 1, none⟩ = some (.int .i64 fr)) (by kernel_rfl) ⟨d0, dn⟩ (fun hHeld => ?_)
  skip
  refine wpAnyH_take (i := 0) (oi := { dst := some 22, op := Op.move (Operand.tmp 0), type := 27, pos := "shadow.go:86", after := #[], guard := none }) (v := ?_) rfl (by kernel_rfl) (by kernel_rfl) (by kernel_rfl) (fun _ _ _ h => h) (Or.inl ⟨by rfl, ?_⟩) (by assumption) ?_
  rotate_left
  focus (intro w hSw; (try dsimp only at hSw); go_simp <;> with_reducible rfl)
  try simp only [Act.put, List.setIfInBounds_toArray, List.set_cons_zero, List.set_cons_succ]
  refine wpAnyH_take (i := 1) (oi := { dst := some 23, op := Op.nilCheck (Operand.tmp 22), type := 0, pos := "shadow.go:86", after := #[{ on := 0, ground := Ground.data }], guard := none }) (v := ?_) rfl (by kernel_rfl) (by kernel_rfl) (by kernel_rfl) (fun _ _ _ h => h) (Or.inl ⟨by rfl, ?_⟩) (by assumption) ?_
  rotate_left
  focus (intro w hSw; (try dsimp only at hSw); go_simp <;> with_reducible rfl)
  try simp only [Act.put, List.setIfInBounds_toArray, List.set_cons_zero, List.set_cons_succ]
  refine wpAnyH_take (i := 2) (oi := { dst := some 24, op := Op.fieldAddr 112 (Operand.tmp 23) 0, type := 0, pos := "shadow.go:86", after := #[{ on := 1, ground := Ground.data }], guard := none }) (v := ?_) rfl (by kernel_rfl) (by kernel_rfl) (by kernel_rfl) (fun _ _ _ h => h) (Or.inl ⟨by rfl, ?_⟩) (by assumption) ?_
  rotate_left
  focus (intro w hSw; (try dsimp only at hSw); go_simp <;> with_reducible rfl)
  try simp only [Act.put, List.setIfInBounds_toArray, List.set_cons_zero, List.set_cons_succ]
  refine wpAnyH_take (i := 3) (oi := { dst := some 25, op := Op.load 26 (Operand.tmp 24), type := 26, pos := "shadow.go:86", after := #[{ on := 2, ground := Ground.data }], guard := none }) (v := ?_) rfl (by kernel_rfl) (by kernel_rfl) (by kernel_rfl) (fun _ _ _ h => h) (Or.inl ⟨by rfl, ?_⟩) (by assumption) ?_
  rotate_left
  focus (intro w hSw; (try dsimp only at hSw); go_simp <;> with_reducible rfl)
  try simp only [Act.put, List.setIfInBounds_toArray, List.set_cons_zero, List.set_cons_succ]
  refine wpAnyH_take (i := 4) (oi := { dst := some 26, op := Op.move (Operand.tmp 0), type := 27, pos := "shadow.go:86", after := #[], guard := none }) (v := ?_) rfl (by kernel_rfl) (by kernel_rfl) (by kernel_rfl) (fun _ _ _ h => h) (Or.inl ⟨by rfl, ?_⟩) (by assumption) ?_
  rotate_left
  focus (intro w hSw; (try dsimp only at hSw); go_simp <;> with_reducible rfl)
  try simp only [Act.put, List.setIfInBounds_toArray, List.set_cons_zero, List.set_cons_succ]
  refine wpAnyH_take (i := 5) (oi := { dst := some 27, op := Op.move (Operand.tmp 6), type := 22, pos := "shadow.go:86", after := #[], guard := none }) (v := ?_) rfl (by kernel_rfl) (by kernel_rfl) (by kernel_rfl) (fun _ _ _ h => h) (Or.inl ⟨by rfl, ?_⟩) (by assumption) ?_
  rotate_left
  focus (intro w hSw; (try dsimp only at hSw); go_simp <;> with_reducible rfl)
  try simp only [Act.put, List.setIfInBounds_toArray, List.set_cons_zero, List.set_cons_succ]
  refine wpAnyH_take (i := 6) (oi := { dst := some 28, op := Op.nilCheck (Operand.tmp 26), type := 0, pos := "shadow.go:86", after := #[{ on := 4, ground := Ground.data }], guard := none }) (v := ?_) rfl (by kernel_rfl) (by kernel_rfl) (by kernel_rfl) (fun _ _ _ h => h) (Or.inl ⟨by rfl, ?_⟩) (by assumption) ?_
  rotate_left
  focus (intro w hSw; (try dsimp only at hSw); go_simp <;> with_reducible rfl)
  try simp only [Act.put, List.setIfInBounds_toArray, List.set_cons_zero, List.set_cons_succ]
  refine wpAnyH_take (i := 7) (oi := { dst := some 29, op := Op.fieldAddr 112 (Operand.tmp 28) 3, type := 0, pos := "shadow.go:86", after := #[{ on := 6, ground := Ground.data }], guard := none }) (v := ?_) rfl (by kernel_rfl) (by kernel_rfl) (by kernel_rfl) (fun _ _ _ h => h) (Or.inl ⟨by rfl, ?_⟩) (by assumption) ?_
  rotate_left
  focus (intro w hSw; (try dsimp only at hSw); go_simp <;> with_reducible rfl)
  try simp only [Act.put, List.setIfInBounds_toArray, List.set_cons_zero, List.set_cons_succ]
  refine wpAnyH_take (i := 8) (oi := { dst := some 30, op := Op.indexAddr 110 (Operand.tmp 29) (Operand.tmp 27), type := 0, pos := "shadow.go:86", after := #[{ on := 7, ground := Ground.data }, { on := 5, ground := Ground.data }], guard := none }) (v := ?_) rfl (by kernel_rfl) (by kernel_rfl) (by kernel_rfl) (fun _ _ _ h => h) (Or.inl ⟨by rfl, ?_⟩) (by assumption) ?_
  rotate_left
  focus (intro w hSw; (try dsimp only at hSw); go_simp <;> with_reducible rfl)
  try simp only [Act.put, List.setIfInBounds_toArray, List.set_cons_zero, List.set_cons_succ]
  refine wpAnyH_take (i := 9) (oi := { dst := some 31, op := Op.fieldAddr 109 (Operand.tmp 30) 1, type := 0, pos := "shadow.go:86", after := #[{ on := 8, ground := Ground.data }], guard := none }) (v := ?_) rfl (by kernel_rfl) (by kernel_rfl) (by kernel_rfl) (fun _ _ _ h => h) (Or.inl ⟨by rfl, ?_⟩) (by assumption) ?_
  rotate_left
  focus (intro w hSw; (try dsimp only at hSw); go_simp <;> with_reducible rfl)
  try simp only [Act.put, List.setIfInBounds_toArray, List.set_cons_zero, List.set_cons_succ]
  refine wpAnyH_take (i := 10) (oi := { dst := some 32, op := Op.load 3 (Operand.tmp 31), type := 3, pos := "shadow.go:86", after := #[{ on := 9, ground := Ground.data }], guard := none }) (v := ?_) rfl (by kernel_rfl) (by kernel_rfl) (by kernel_rfl) (fun _ _ _ h => h) (Or.inl ⟨by rfl, ?_⟩) (by assumption) ?_
  rotate_left
  focus (intro w hSw; (try dsimp only at hSw); go_simp <;> with_reducible rfl)
  try simp only [Act.put, List.setIfInBounds_toArray, List.set_cons_zero, List.set_cons_succ]
  refine wpAnyH_take (i := 11) (oi := { dst := some 33, op := Op.binOp BinOp.mul 3 (Operand.tmp 32) (Operand.const (Value.int IntKind.i64 64)) 3, type := 3, pos := "shadow.go:86", after := #[{ on := 10, ground := Ground.data }], guard := none }) (v := ?_) rfl (by kernel_rfl) (by kernel_rfl) (by kernel_rfl) (fun _ _ _ h => h) (Or.inl ⟨by rfl, ?_⟩) (by assumption) ?_
  rotate_left
  focus (intro w hSw; (try dsimp only at hSw); go_simp <;> with_reducible rfl)
  try simp only [Act.put, List.setIfInBounds_toArray, List.set_cons_zero, List.set_cons_succ]
  refine wpAnyH_take (i := 12) (oi := { dst := some 34, op := Op.convert 3 22 (Operand.tmp 33), type := 22, pos := "shadow.go:86", after := #[{ on := 11, ground := Ground.data }], guard := none }) (v := ?_) rfl (by kernel_rfl) (by kernel_rfl) (by kernel_rfl) (fun _ _ _ h => h) (Or.inl ⟨by rfl, ?_⟩) (by assumption) ?_
  rotate_left
  focus (intro w hSw; (try dsimp only at hSw); go_simp <;> with_reducible rfl)
  try simp only [Act.put, List.setIfInBounds_toArray, List.set_cons_zero, List.set_cons_succ]
  refine wpAnyH_take (i := 13) (oi := { dst := some 35, op := Op.move (Operand.tmp 7), type := 22, pos := "shadow.go:86", after := #[], guard := none }) (v := ?_) rfl (by kernel_rfl) (by kernel_rfl) (by kernel_rfl) (fun _ _ _ h => h) (Or.inl ⟨by rfl, ?_⟩) (by assumption) ?_
  rotate_left
  focus (intro w hSw; (try dsimp only at hSw); go_simp <;> with_reducible rfl)
  try simp only [Act.put, List.setIfInBounds_toArray, List.set_cons_zero, List.set_cons_succ]
  refine wpAnyH_take (i := 14) (oi := { dst := some 36, op := Op.binOp BinOp.mul 22 (Operand.const (Value.int IntKind.u32 4)) (Operand.tmp 35) 22, type := 22, pos := "shadow.go:86", after := #[{ on := 13, ground := Ground.data }], guard := none }) (v := ?_) rfl (by kernel_rfl) (by kernel_rfl) (by kernel_rfl) (fun _ _ _ h => h) (Or.inl ⟨by rfl, ?_⟩) (by assumption) ?_
  rotate_left
  focus (intro w hSw; (try dsimp only at hSw); go_simp <;> with_reducible rfl)
  try simp only [Act.put, List.setIfInBounds_toArray, List.set_cons_zero, List.set_cons_succ]
  refine wpAnyH_take (i := 15) (oi := { dst := some 37, op := Op.binOp BinOp.add 22 (Operand.tmp 34) (Operand.tmp 36) 22, type := 22, pos := "shadow.go:86", after := #[{ on := 12, ground := Ground.data }, { on := 14, ground := Ground.data }], guard := none }) (v := ?_) rfl (by kernel_rfl) (by kernel_rfl) (by kernel_rfl) (fun _ _ _ h => h) (Or.inl ⟨by rfl, ?_⟩) (by assumption) ?_
  rotate_left
  focus (intro w hSw; (try dsimp only at hSw); go_simp <;> with_reducible rfl)
  try simp only [Act.put, List.setIfInBounds_toArray, List.set_cons_zero, List.set_cons_succ]
  refine wpAnyH_take (i := 16) (oi := { dst := some 38, op := Op.move (Operand.tmp 2), type := 22, pos := "shadow.go:86", after := #[], guard := none }) (v := ?_) rfl (by kernel_rfl) (by kernel_rfl) (by kernel_rfl) (fun _ _ _ h => h) (Or.inl ⟨by rfl, ?_⟩) (by assumption) ?_
  rotate_left
  focus (intro w hSw; (try dsimp only at hSw); go_simp <;> with_reducible rfl)
  try simp only [Act.put, List.setIfInBounds_toArray, List.set_cons_zero, List.set_cons_succ]
  refine wpAnyH_ready (rs := [17]) (by kernel_rfl) (by simp) ?_
  refine AllReadyH.cons (o := { dst := some 39, op := Op.call { callee := Callee.value (Operand.func 82), args := #[Operand.tmp 25, Operand.tmp 37, Operand.tmp 38], argTypes := #[26, 22, 22] }, type := 4, pos := "shadow.go:86", after := #[{ on := 3, ground := Ground.data }, { on := 15, ground := Ground.data }, { on := 16, ground := Ground.data }], guard := none }) rfl (fun K hK => ?_) AllReadyH.nil
  go_simp
  refine (setword_c (HY.out.2.2.keep0 (Keep.refl [] y).drew) (by rw [hI.len]) (by omega) (64 * fr + 4 * k) e ⟨by omega, by omega⟩ hel).mono ?_
  rintro en y2 ⟨rfl, hR2, hk2⟩
  have hk2' : Keep [g] y y2 := (Keep.refl [g] y).drew.trans hk2
  have HF : Hid (ShAt y2 s r p 8 (setTab T n (setEn (T n) k e)) ∧ RamAt y2 r fb g (List.range 40) (splice L (64 * fr + 4 * k) (le4 e)) ∧ Keep [s, g] w y2) := Lib.hid ⟨HY.out.1.keep hk2' (by simp; omega), hR2, HY.out.2.1.trans (hk2'.weaken (by simp))⟩
  have e0 := hk2.cell hHeld.1 (by simp; omega)
  have en' := hk2.cell hHeld.2 (by simp; omega)
  clear hR2 hk2 hk2'
  go_wp2_with fail
  refine shut_grow (fun x => x = y2) hK (fun _ h => by rw [h]; exact ⟨e0, en'⟩) rfl (fun hHeld => ?_)
  clear hK K
  refine wpAnyH_done (by kernel_rfl) ?_ _
  go_wp2_with fail
  go_end0
  exact ⟨⟨_, rfl⟩, HF.out⟩
end Go.Proofs.Ytpinoejckagjbaa
