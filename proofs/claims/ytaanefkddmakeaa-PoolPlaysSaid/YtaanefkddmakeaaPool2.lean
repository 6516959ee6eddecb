/- The calls of the document's pool. -/
import Derived.Test.YtaanefkddmakeaaRows
import Derived.Test.YtaanefkddmakeaaSet
import Derived.Test.YtaanefkddmakeaaArr
import Derived.RegionTactic
namespace Go.Proofs.Ytaanefkddmakeaa
open Go.RowKit Go.Mum

def RefAt (w : World) (rb ob : Nat) (first : Int) (n : Nat) (s : List Int) : Prop :=
  w.heap[rb]? = some (.cells #[.int .i64 first, .slice (some ⟨ob, 0, none⟩) n n] 60 (0, 0)) ∧ ob ≠ rb ∧ ArrAt w ob 4 n fun j => .bool (decide (first + (j : Int) ∈ s))

theorem RefAt.keep {l : List Nat} {w x : World} {rb ob n : Nat} {first : Int} {s : List Int} (h : RefAt w rb ob first n s) (hk : Keep l w x) (hr : rb ∉ l) (ho : ob ∉ l) : RefAt x rb ob first n s :=
  ⟨hk.heap h.1 hr, h.2.1, h.2.2.keep hk ho⟩

theorem RefAt.put {w : World} {rb ob n : Nat} {first : Int} {s s' : List Int} (h : RefAt w rb ob first n s) (i : Nat) (v : Bool) (he : ∀ j : Nat, j < n → (decide (first + (j : Int) ∈ s') = if j = i then v else decide (first + (j : Int) ∈ s))) :
    RefAt (w.setCell ⟨ob, i, none⟩ (.bool v)) rb ob first n s' :=
  ⟨by rw [heap_set_other (Ne.symm h.2.1)]; exact h.1, h.2.1, (h.2.2.set i _).ext fun j hj => by rw [he j hj]; split <;> rfl⟩

theorem RefAt.cells {w : World} {rb ob n : Nat} {first : Int} {s : List Int} (h : RefAt w rb ob first n s) :
    w.cell? ⟨rb, 0, none⟩ = some (.int .i64 first) ∧ w.cell? ⟨rb, 1, none⟩ = some (.slice (some ⟨ob, 0, none⟩) n n) := ⟨cell_of h.1 0 rfl, cell_of h.1 1 rfl⟩

/-- Frame first + k is lent, the first that was not. -/
def RTake (rb ob : Nat) (first : Int) (n : Nat) (s : List Int) (w : World) (e : Ending) (w' : World) : Prop :=
  (∃ k : Nat, k < n ∧ (∀ j : Nat, j < k → first + j ∈ s) ∧ ¬ first + k ∈ s ∧ e = .returned (.tuple #[.int .i64 (first + k), .bool true]) ∧ RefAt w' rb ob first n (s ++ [first + k]) ∧ Keep [ob] w w') ∨
  ((∀ j : Nat, j < n → first + j ∈ s) ∧ e = .returned (.tuple #[.int .i64 0, .bool false]) ∧ w = w')

set_option maxHeartbeats 1000000 in
theorem rtake {rb ob n : Nat} {first : Int} {s : List Int} {w : World} (h : RefAt w rb ob first n s) (h1 : 0 ≤ first) (h2 : first ≤ 1000) (h3 : n ≤ 1000) :
    Calls Try.prog 29 #[.pointer (some ⟨rb, 0, none⟩)] w (RTake rb ob first n s w) := by
  obtain ⟨c0, c1⟩ := h.cells
  go_enter Try.func29, Try.ntmps29
  go_wp2_with fail
  go_loop [4] (fun i => ∃ k : Nat, k ≤ n ∧ i = .int .i64 k ∧ ∀ j : Nat, j < k → first + j ∈ s) (fun i => n - (intOf i).toNat)
  case atStart => exact ⟨0, by omega, rfl, by omega⟩
  case round =>
    obtain ⟨k, hk, rfl, hall⟩ := hrel
    have Hall := Lib.hid hall
    clear hall
    by_cases hlt : k < n
    · have hc := h.2.2.cell hlt
      have hf := h.2.2.frozen k
      by_cases hin : first + k ∈ s
      · rw [decide_eq_true hin] at hc
        have Hin := Lib.hid hin
        have H := Lib.hid h
        clear hin h
        go_wp2
        go_round
        case rel => exact ⟨k + 1, by omega, by go_num, fun j hj => by
          by_cases e : j = k
          · rw [e]; exact Hin.out
          · exact Hall.out j (by omega)⟩
        case measure => simp [intOf]; omega
      · rw [decide_eq_false hin] at hc
        have hn0 : (w.setCell ⟨ob, k, none⟩ (.bool true)).cell? ⟨rb, 0, none⟩ = some (.int .i64 first) := cell_of (h.put (s' := s ++ [first + (k : Int)]) k true (fun j _ => by
          by_cases e : j = k
          · subst e; simp
          · rw [if_neg e]; congr 1; simp; omega)).1 0 rfl
        have Hfin : Hid (RTake rb ob first n s w (.returned (.tuple #[.int .i64 (first + k), .bool true])) (w.setCell ⟨ob, k, none⟩ (.bool true))) :=
          Lib.hid (.inl ⟨k, hlt, Hall.out, hin, rfl, h.put k true (fun j _ => by
            by_cases e : j = k
            · subst e; simp
            · rw [if_neg e]; congr 1; simp; omega), (Keep.refl _ _).setCell (.inl (by simp)) _⟩)
        clear h Hall hin
        go_wp2
        go_ret2
        exact Hfin.out
    · have Hfin : Hid (RTake rb ob first n s w (.returned (.tuple #[.int .i64 0, .bool false])) w) := Lib.hid (.inr ⟨fun j hj => Hall.out j (by omega), rfl, rfl⟩)
      clear Hall h
      go_wp2
      go_ret2
      exact Hfin.out

/-- Of a frame that is lent. -/
def RGive (rb ob : Nat) (first : Int) (n : Nat) (s : List Int) (f : Int) (w : World) (e : Ending) (w' : World) : Prop :=
  e = .returned (.bool true) ∧ RefAt w' rb ob first n (s.filter (· ≠ f)) ∧ Keep [ob] w w'

set_option maxHeartbeats 1000000 in
theorem rgive_in {rb ob n : Nat} {first : Int} {s : List Int} {w : World} (f : Int) (h : RefAt w rb ob first n s) (h1 : 0 ≤ first) (h2 : first ≤ 1000) (h3 : n ≤ 1000) (hin : f ∈ s) (hs : first ≤ f) (hs' : f < first + n) :
    Calls Try.prog 30 #[.pointer (some ⟨rb, 0, none⟩), .int .i64 f] w (RGive rb ob first n s f w) := by
  obtain ⟨c0, c1⟩ := h.cells
  have hc := h.2.2.cell (j := (f - first).toNat) (by omega)
  rw [show first + ((f - first).toNat : Int) = f by omega, decide_eq_true hin] at hc
  have hf := h.2.2.frozen (f - first).toNat
  have hi0 : 0 ≤ f - first := by omega
  have hi1 : f - first < n := by omega
  have hg1 : decide (f < first) = false := by simpa using hs
  have hg2 : decide (first + (n : Int) ≤ f) = false := by simpa using hs'
  have Hfin : ∀ k, Hid (RGive rb ob first n s f w (.returned (.bool true)) ((w.drewN k).setCell ⟨ob, (f - first).toNat, none⟩ (.bool false))) := fun k =>
    Lib.hid ⟨rfl, (h.keep ((Keep.refl [] w).drewN k) (by simp) (by simp)).put _ false (fun j _ => by
      by_cases e : j = (f - first).toNat
      · rw [if_pos e]; subst e; rw [show first + ((f - first).toNat : Int) = f by omega]; simp
      · rw [if_neg e]; congr 1; simp; omega), ((Keep.refl _ _).drewN k).setCell (.inl (by simp)) _⟩
  clear h hin hs hs'
  go_enter Try.func30, Try.ntmps30
  go_wp2_with fail
  go_quiet (fail)
  go_wp2_with fail
  go_region
  go_wp2
  go_ret
  exact (Hfin _).out

set_option maxHeartbeats 1000000 in
theorem rgive_out {rb ob n : Nat} {first : Int} {s : List Int} {w : World} (f : Int) (h : RefAt w rb ob first n s) (h1 : 0 ≤ first) (h2 : first ≤ 1000) (h3 : n ≤ 1000) (hout : ¬ f ∈ s) (hb : -9223372036854775808 ≤ f) (hb' : f ≤ 9223372036854775807) :
    Calls Try.prog 30 #[.pointer (some ⟨rb, 0, none⟩), .int .i64 f] w fun e w' => e = .returned (.bool false) ∧ ∃ k, w' = w.drewN k := by
  obtain ⟨c0, c1⟩ := h.cells
  by_cases hs : f < first
  · have hg1 : decide (f < first) = true := by simpa using hs
    clear h hout
    go_enter Try.func30, Try.ntmps30
    go_wp2_with fail
    go_quiet (fail)
    go_wp2
    go_ret
    exact ⟨rfl, _, rfl⟩
  · have hg1 : decide (f < first) = false := by simpa using hs
    by_cases hs' : first + n ≤ f
    · have hg2 : decide (first + (n : Int) ≤ f) = true := by simpa using hs'
      clear h hout
      go_enter Try.func30, Try.ntmps30
      go_wp2_with fail
      go_quiet (fail)
      go_wp2
      go_ret
      exact ⟨rfl, _, rfl⟩
    · have hg2 : decide (first + (n : Int) ≤ f) = false := by simpa using hs'
      have hc := h.2.2.cell (j := (f - first).toNat) (by omega)
      rw [show first + ((f - first).toNat : Int) = f by omega, decide_eq_false hout] at hc
      have hi0 : 0 ≤ f - first := by omega
      have hi1 : f - first < n := by omega
      clear h hout
      go_enter Try.func30, Try.ntmps30
      go_wp2_with fail
      go_quiet (fail)
      go_wp2
      go_ret
      exact ⟨rfl, _, rfl⟩

/-- How many of the first k frames are not lent. -/
def unlent (first : Int) (s : List Int) (k : Nat) : Nat := ((List.range k).filter fun j : Nat => ! decide (first + (j : Int) ∈ s)).length

theorem unlent_succ_in {first : Int} {s : List Int} {k : Nat} (h : first + (k : Int) ∈ s) : unlent first s (k + 1) = unlent first s k := by
  simp [unlent, List.range_succ, List.filter_append, h]

theorem unlent_succ_out {first : Int} {s : List Int} {k : Nat} (h : ¬ first + (k : Int) ∈ s) : unlent first s (k + 1) = unlent first s k + 1 := by
  simp [unlent, List.range_succ, List.filter_append, h]

theorem unlent_le (first : Int) (s : List Int) (k : Nat) : unlent first s k ≤ k := by
  have := List.length_filter_le (fun j : Nat => ! decide (first + (j : Int) ∈ s)) (List.range k)
  simpa [unlent] using this

set_option maxHeartbeats 1000000 in
theorem rleft {rb ob n : Nat} {first : Int} {s : List Int} {w : World} (h : RefAt w rb ob first n s) (h3 : n ≤ 1000) :
    Calls Try.prog 32 #[.pointer (some ⟨rb, 0, none⟩)] w fun e w' => e = .returned (.int .i64 (unlent first s n : Nat)) ∧ w = w' := by
  obtain ⟨c0, c1⟩ := h.cells
  go_enter Try.func32, Try.ntmps32
  go_wp2_with fail
  go_loop [3, 4] (fun c i => ∃ k : Nat, k ≤ n ∧ i = .int .i64 k ∧ c = .int .i64 (unlent first s k : Nat)) (fun _ i => n - (intOf i).toNat)
  case atStart => exact ⟨0, by omega, rfl, rfl⟩
  case round =>
    obtain ⟨k, hk, rfl, rfl⟩ := hrel
    have hu := unlent_le first s k
    by_cases hlt : k < n
    · have hc := h.2.2.cell hlt
      have H := Lib.hid h
      clear h
      by_cases hin : first + k ∈ s
      · rw [decide_eq_true hin] at hc
        have HU := Lib.hid (unlent_succ_in hin)
        clear hin
        go_wp2
        go_round
        case rel => exact ⟨k + 1, by omega, by go_num, by rw [HU.out]⟩
        case measure => simp [intOf]; omega
      · rw [decide_eq_false hin] at hc
        have HU := Lib.hid (unlent_succ_out hin)
        clear hin
        go_wp2
        go_round
        case rel => exact ⟨k + 1, by omega, by go_num, by rw [HU.out]; go_num⟩
        case measure => simp [intOf]; omega
    · clear h
      obtain rfl : k = n := by omega
      go_wp2
      go_ret
      exact ⟨rfl, rfl⟩
end Go.Proofs.Ytaanefkddmakeaa
