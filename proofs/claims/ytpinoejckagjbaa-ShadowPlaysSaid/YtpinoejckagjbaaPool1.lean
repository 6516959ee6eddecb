/- The calls of the package pool, one by one: what each answers and what it leaves. -/
import Derived.Test.YtpinoejckagjbaaRows
import Derived.Test.YtpinoejckagjbaaSet
import Derived.Deep.QuietTactic
import Derived.BigQuiet
namespace Go.Proofs.Ytpinoejckagjbaa
open Go.RowKit Go.Mum

/-- A pool that New made. -/
def PoolAt (w : World) (b m : Nat) (first n : Int) (s : List Int) (tk sh : Int) : Prop :=
  w.heap[b]? = some (.cells #[.bool true, .int .i64 first, .int .i64 n, .map (some m), .int .i64 tk, .int .i64 sh] 124 (0, 0)) ∧ SetAt w m s

theorem zeroBool (w : World) : (zeroValue 4).run Try.prog w = .ok (.bool false) w := by kernel_rfl

theorem PoolAt.ne {w : World} {b m : Nat} {first n : Int} {s : List Int} {tk sh : Int} (h : PoolAt w b m first n s tk sh) : m ≠ b := by
  obtain ⟨h1, es, cl, h2, _⟩ := h
  rintro rfl
  rw [h1] at h2
  simp at h2

theorem PoolAt.keep {l : List Nat} {w x : World} {b m : Nat} {first n : Int} {s : List Int} {tk sh : Int} (h : PoolAt w b m first n s tk sh) (hk : Keep l w x) (hb : b ∉ l) (hm : m ∉ l) : PoolAt x b m first n s tk sh :=
  ⟨hk.heap h.1 hb, h.2.keep hk hm⟩

theorem PoolAt.cells {w : World} {b m : Nat} {first n : Int} {s : List Int} {tk sh : Int} (h : PoolAt w b m first n s tk sh) :
    w.cell? ⟨b, 0, none⟩ = some (.bool true) ∧ w.cell? ⟨b, 1, none⟩ = some (.int .i64 first) ∧ w.cell? ⟨b, 2, none⟩ = some (.int .i64 n) ∧ w.cell? ⟨b, 3, none⟩ = some (.map (some m)) ∧
    w.cell? ⟨b, 4, none⟩ = some (.int .i64 tk) ∧ w.cell? ⟨b, 5, none⟩ = some (.int .i64 sh) :=
  ⟨cell_of h.1 0 rfl, cell_of h.1 1 rfl, cell_of h.1 2 rfl, cell_of h.1 3 rfl, cell_of h.1 4 rfl, cell_of h.1 5 rfl⟩

set_option maxHeartbeats 400000 in
theorem pnone_nil (w : World) :
    Calls Try.prog 58 #[.pointer none] w fun e w' => e = .returned (.bool true) ∧ w = w' := by
  go_enter Try.func58, Try.ntmps58
  go_wp2
  go_ret
  exact ⟨rfl, rfl⟩

set_option maxHeartbeats 400000 in
theorem pnone_at (b : Nat) (m : Bool) (w : World) (hc : w.cell? ⟨b, 0, none⟩ = some (.bool m)) :
    Calls Try.prog 58 #[.pointer (some ⟨b, 0, none⟩)] w fun e w' => e = .returned (.bool (!m)) ∧ w = w' := by
  go_enter Try.func58, Try.ntmps58
  go_wp2
  go_ret
  exact ⟨rfl, rfl⟩

set_option maxHeartbeats 400000 in
theorem pnew_bad (first n : Int) (w : World) (h1 : -9223372036854775808 ≤ first ∧ first ≤ 9223372036854775807) (h2 : -9223372036854775808 ≤ n ∧ n ≤ 9223372036854775807)
    (h : first < 0 ∨ n < 0 ∨ 512 < n ∨ 512 - n < first) :
    Calls Try.prog 21 #[.int .i64 first, .int .i64 n] w fun e w' => e = .returned (.tuple #[.pointer none, .int .i64 2]) ∧ w = w' := by
  obtain ⟨h1a, h1b⟩ := h1
  obtain ⟨h2a, h2b⟩ := h2
  have hmm := @run_makeMap Try.prog
  go_enter Try.func21, Try.ntmps21
  go_wp2
  all_goals first | (exfalso; omega) | (go_ret2; exact ⟨rfl, rfl⟩)

/-- What a pool that New made looks like. -/
def NewPool (first n : Int) (w : World) (e : Ending) (w' : World) : Prop :=
  ∃ b m, w.heap.size ≤ b ∧ w.heap.size ≤ m ∧ e = .returned (.tuple #[.pointer (some ⟨b, 0, none⟩), .int .i64 0]) ∧ PoolAt w' b m first n [] 0 0 ∧ Keep [] w w'

set_option maxHeartbeats 400000 in
theorem pnew_good (first n : Int) (w : World) (h1 : 0 ≤ first) (h2 : 0 ≤ n) (h3 : n ≤ 512) (h4 : first ≤ 512 - n) :
    Calls Try.prog 21 #[.int .i64 first, .int .i64 n] w (NewPool first n w) := by
  have hmm := @run_makeMap Try.prog
  go_enter Try.func21, Try.ntmps21
  go_wp2
  all_goals try (exfalso; omega)
  go_ret2
  exact ⟨w.heap.size + 1, w.heap.size, by omega, by omega, rfl, ⟨heap_alloc_at _ (by simp), (setAt_made w).keep ((Keep.refl [] _).alloc _) (by simp)⟩, ((Keep.refl _ _).alloc _).alloc _⟩

set_option maxHeartbeats 400000 in
theorem pleft_at {b m : Nat} {first n : Int} {s : List Int} {tk sh : Int} {w : World} (h : PoolAt w b m first n s tk sh) (hn : 0 ≤ n) (hn' : n ≤ 512) (hs : s.length ≤ 100000) :
    Calls Try.prog 24 #[.pointer (some ⟨b, 0, none⟩)] w fun e w' => e = .returned (.int .i64 (n - s.length)) ∧ ∃ k, w' = w.drewN k := by
  have hl := fun ty w (hw : SetAt w m s) => set_len (P := Try.prog) Try.underlying122 (ty := ty) hw
  obtain ⟨c0, c1, c2, c3, c4, c5⟩ := h.cells
  have hl' : ∀ ty k, (Builtin.len_ #[122] ty #[.map (some m)]).run Try.prog (w.drewN k) = .ok (.int .i64 s.length) (w.drewN k) := fun ty k => hl ty _ h.2
  clear hl
  go_enter Try.func24, Try.ntmps24
  go_wp2
  go_quiet (fail)
  go_wp2
  go_ret
  exact ⟨rfl, _, rfl⟩

set_option maxHeartbeats 400000 in
theorem aload_at {b i : Nat} {v : Int} {w : World} (h : w.cell? ⟨b, i, none⟩ = some (.int .i64 v)) :
    Calls Try.prog 75 #[.pointer (some ⟨b, i, none⟩)] w fun e w' => e = .returned (.int .i64 v) ∧ w = w' := by
  have hl := run_call_load (P := Try.prog) Try.func92 (by kernel_rfl) (by kernel_rfl) (by kernel_rfl) .i64 (by kernel_rfl) h
  go_enter Try.func75, Try.ntmps75
  go_wp2
  go_ret
  exact ⟨rfl, rfl⟩

set_option maxHeartbeats 400000 in
theorem aadd_at {b i : Nat} {v d : Int} {w : World} (h : w.cell? ⟨b, i, none⟩ = some (.int .i64 v)) (hf : w.frozen? ⟨b, i, none⟩ = false) (h1 : -1000000000000 ≤ v) (h2 : v ≤ 1000000000000) (h3 : -1000000000000 ≤ d) (h4 : d ≤ 1000000000000) :
    Calls Try.prog 62 #[.pointer (some ⟨b, i, none⟩), .int .i64 d] w fun e w' => e = .returned (.int .i64 (v + d)) ∧ w' = w.setCell ⟨b, i, none⟩ (.int .i64 (v + d)) := by
  have hl := run_call_add (P := Try.prog) Try.func87 (by kernel_rfl) (by kernel_rfl) (by kernel_rfl) .i64 (by kernel_rfl) (y := d) (s := v + d) h hf (by simp [go_sem, IntWalk.i64_in (v + d) (by omega)])
  go_enter Try.func62, Try.ntmps62
  go_wp2
  go_ret
  exact ⟨rfl, rfl⟩

set_option maxHeartbeats 400000 in
theorem pgive_in {b m : Nat} {first n : Int} {s : List Int} {tk sh : Int} {w : World} (h : PoolAt w b m first n s tk sh) (f : Int) (hf : f ∈ s) :
    Calls Try.prog 81 #[.pointer (some ⟨b, 0, none⟩), .int .i64 f] w fun e w' => e = .returned (.bool true) ∧ PoolAt w' b m first n (s.filter (· ≠ f)) tk sh ∧ Keep [b, m] w w' := by
  have hl := set_lookup Try.underlying122 Try.underlying3 zeroBool h.2 f
  rw [show decide (f ∈ s) = true by simpa using hf] at hl
  obtain ⟨x, hd, hs, hk⟩ := set_delete Try.underlying122 Try.underlying3 (ty := 0) h.2 f
  obtain ⟨c0, c1, c2, c3, c4, c5⟩ := h.cells
  have hP : PoolAt x b m first n (s.filter (· ≠ f)) tk sh := ⟨hk.heap h.1 (by simpa using h.ne.symm), hs⟩
  have hK : Keep [b, m] w x := hk.weaken (by simp)
  have hd := hd
  clear hs hk h
  go_enter Try.func81, Try.ntmps81
  go_wp2
  go_ret
  exact ⟨rfl, hP, hK⟩

set_option maxHeartbeats 400000 in
theorem pgive_out {b m : Nat} {first n : Int} {s : List Int} {tk sh : Int} {w : World} (h : PoolAt w b m first n s tk sh) (f : Int) (hf : ¬ f ∈ s) :
    Calls Try.prog 81 #[.pointer (some ⟨b, 0, none⟩), .int .i64 f] w fun e w' => e = .returned (.bool false) ∧ w = w' := by
  have hl := set_lookup Try.underlying122 Try.underlying3 zeroBool h.2 f
  rw [show decide (f ∈ s) = false by simpa using hf] at hl
  obtain ⟨c0, c1, c2, c3, c4, c5⟩ := h.cells
  clear h
  go_enter Try.func81, Try.ntmps81
  go_wp2
  go_ret
  exact ⟨rfl, rfl⟩

/-- Frame first + k is lent, the first that was not. -/
def TakeYes (b m : Nat) (first n : Int) (s : List Int) (tk sh : Int) (w : World) (e : Ending) (w' : World) : Prop :=
  (∃ k : Nat, (k : Int) < n ∧ (∀ j : Nat, j < k → first + j ∈ s) ∧ ¬ first + k ∈ s ∧ e = .returned (.tuple #[.int .i64 (first + k), .bool true]) ∧ PoolAt w' b m first n (s ++ [first + k]) (tk + 1) sh ∧ Keep [b, m] w w') ∨
  ((∀ j : Nat, (j : Int) < n → first + j ∈ s) ∧ e = .returned (.tuple #[.int .i64 0, .bool false]) ∧ PoolAt w' b m first n s tk (sh + 1) ∧ Keep [b, m] w w')

set_option maxHeartbeats 1000000 in
theorem ptake_at {b m : Nat} {first n : Int} {s : List Int} {tk sh : Int} {w : World} (h : PoolAt w b m first n s tk sh)
    (h1 : 0 ≤ first) (h2 : 0 ≤ n) (h3 : n ≤ 512) (h4 : first ≤ 512 - n) (ht0 : 0 ≤ tk) (ht : tk ≤ 100000000) (hs0 : 0 ≤ sh) (hs : sh ≤ 100000000) :
    Calls Try.prog 80 #[.pointer (some ⟨b, 0, none⟩)] w (TakeYes b m first n s tk sh w) := by
  obtain ⟨c0, c1, c2, c3, c4, c5⟩ := h.cells
  have f4 := frozen_of h.1 4
  have f5 := frozen_of h.1 5
  go_enter Try.func80, Try.ntmps80
  go_wp2_with (go_at_call 58; refine (pnone_at b true _ c0).mono ?_; rintro e w' ⟨rfl, rfl⟩)
  go_loop [4, 5, 12] (fun _ _ i => ∃ k : Nat, (k : Int) ≤ n ∧ i = .int .i64 k ∧ ∀ j : Nat, j < k → first + j ∈ s) (fun _ _ i => (n - intOf i).toNat)
  case atStart => exact ⟨0, by omega, rfl, by omega⟩
  case round =>
    obtain ⟨k, hk, rfl, hall⟩ := hrel
    have Hall := Lib.hid hall
    clear hall
    by_cases hlt : (k : Int) < n
    · have hl := set_lookup Try.underlying122 Try.underlying3 zeroBool h.2 (first + k)
      by_cases hin : first + k ∈ s
      · rw [show decide (first + k ∈ s) = true by simpa using hin] at hl
        have Hin := Lib.hid hin
        have H := Lib.hid h
        clear hin h
        go_wp2
        go_round
        case rel => exact ⟨k + 1, by omega, by go_num, fun j hj => by
          by_cases e : j = k
          · rw [e]; exact Hin.out
          · exact Hall.out j (by omega)⟩
        case measure => simp [intOf]; omega
      · rw [show decide (first + k ∈ s) = false by simpa using hin] at hl
        obtain ⟨x, hd, hs', hk'⟩ := set_update Try.underlying122 Try.underlying3 h.2 (first + k)
        rw [if_neg hin] at hs'
        have hx : x.heap[b]? = some _ := hk'.heap h.1 (by simpa using h.ne.symm)
        have hc : x.cell? ⟨b, 4, none⟩ = some (.int .i64 tk) := cell_of hx 4 rfl
        have hfz := frozen_of hx 4
        have hne := h.ne
        have Hfin : Hid (TakeYes b m first n s tk sh w (.returned (.tuple #[.int .i64 (first + k), .bool true])) (x.setCell ⟨b, 4, none⟩ (.int .i64 (tk + 1)))) :=
          Lib.hid (.inl ⟨k, hlt, Hall.out, hin, rfl, ⟨heap_set_same hx 4 _, hs'.same (heap_set_other hne _ _)⟩, (hk'.weaken (l' := [b, m]) (by simp)).setCell (.inl (by simp)) _⟩)
        clear hs' hk' hx Hall h
        go_wp2_with (go_at_call 62; refine (aadd_at hc hfz (by omega) (by omega) (by omega) (by omega)).mono ?_; rintro e w' ⟨rfl, rfl⟩)
        go_ret2
        exact Hfin.out
    · have Hfin : Hid (TakeYes b m first n s tk sh w (.returned (.tuple #[.int .i64 0, .bool false])) (w.setCell ⟨b, 5, none⟩ (.int .i64 (sh + 1)))) :=
          Lib.hid (.inr ⟨fun j hj => Hall.out j (by omega), rfl, ⟨heap_set_same h.1 5 _, h.2.same (heap_set_other h.ne _ _)⟩, (Keep.refl _ _).setCell (.inl (by simp)) _⟩)
      clear Hall h
      go_wp2_with (go_at_call 62; refine (aadd_at c5 f5 (by omega) (by omega) (by omega) (by omega)).mono ?_; rintro e w' ⟨rfl, rfl⟩)
      go_ret2
      exact Hfin.out
end Go.Proofs.Ytpinoejckagjbaa
