/- What is done with an access: the small calls. -/
import Derived.Test.YtnpnedimgfbnhaaWalk7
import Derived.Test.YtnpnedimgfbnhaaMarks3
import Derived.Outline
namespace Go.Proofs.Ytnpnedimgfbnhaa
open Go.RowKit Go.Mum
set_option linter.unusedVariables false
set_option maxRecDepth 100000

/-- Marks as they are asked. -/
def Wat (w : World) (mv : Value) (W : Int → Bool) : Prop := ∀ x, Keep [] w x → ∀ f : Int, Calls Try.prog 19 #[mv, .int .i64 f] x fun e w' => e = .returned (.bool (W f)) ∧ x = w'

theorem Wat.keep0 {w x : World} {mv : Value} {W : Int → Bool} (h : Wat w mv W) (hk : Keep [] w x) : Wat x mv W := fun y hy => h y (hk.trans hy)

theorem MarksAt.wat {w : World} {b m1 m2 : Nat} {n : Int} {s1 s2 : List Int} (h : MarksAt w b m1 m2 n s1 s2) : Wat w (.pointer (some ⟨b, 0, none⟩)) (fun f => decide (f ∈ s1) || decide (f ∈ s2)) := fun x hx f => by
  have H := h.keep hx (by simp) (by simp) (by simp)
  exact mwatched_any H.sets (.inr ⟨m1, rfl, H.one⟩) (.inr ⟨m2, rfl, H.two⟩) f

def BoolPost (q : Bool) (w : World) (e : Ending) (w' : World) : Prop := e = .returned (.bool q) ∧ Keep [] w w'

set_option maxHeartbeats 1000000 in
theorem paged_at (v mv : Value) (f : Nat → Value) (ps : Nat) (cr va kind : Int) (hp : ps < 4294967296) (w : World) :
    Calls Try.prog 48 #[.agg #[v, f 0, f 1, f 2, f 3, f 4, f 5, f 6, f 7, f 8, .int .u32 ps, .int .u32 cr, f 11, f 12, f 13, f 14, f 15, f 16, f 17, f 18, mv, .int .u32 va, .int .i64 kind]] w fun en w' => en = .returned (.bool (decide (ps / 4 % 2 = 1))) ∧ w.alloc (.cells #[v, f 0, f 1, f 2, f 3, f 4, f 5, f 6, f 7, f 8, .int .u32 ps, .int .u32 cr, f 11, f 12, f 13, f 14, f 15, f 16, f 17, f 18, mv, .int .u32 va, .int .i64 kind] 91) = w' := by
  by_cases h4 : ps / 4 % 2 = 0
  · have m4 : bits .and .u32 (ps : Int) 4 = 0 := bit0 (i := 2) hp rfl (by decide) h4
    rw [decide_eq_false (by omega)]
    clear h4
    go_enter Try.func48, Try.ntmps48
    go_wp2
    go_ret
    exact ⟨rfl, rfl⟩
  · have m4 : bits .and .u32 (ps : Int) 4 = 4 := bit1 (i := 2) hp rfl (by decide) h4
    rw [decide_eq_true (by omega)]
    clear h4
    go_enter Try.func48, Try.ntmps48
    go_wp2
    go_ret
    exact ⟨rfl, rfl⟩

/-- Two frames, rising, each once. -/
def tabs (d t : Nat) : List Int := if d = t then [(d : Int)] else if t < d then [(t : Int), (d : Int)] else [(d : Int), (t : Int)]

theorem tabs_len (d t : Nat) : 1 ≤ (tabs d t).length ∧ (tabs d t).length ≤ 2 := by unfold tabs; (repeat' split) <;> simp

/-- What a call that hands back a list of numbers leaves. -/
def NumsPost (l : List Int) (w : World) (e : Ending) (w' : World) : Prop := ∃ a cap, e = .returned (.slice a l.length cap) ∧ Reads w' a l ∧ Keep [] w w'

theorem reads_one (w : World) (x : Int) {t : TypeId} : Reads (w.alloc (.cells #[.int .i64 x] t)) (some ⟨w.heap.size, 0, none⟩) [x] :=
  .inr ⟨_, rfl, fun j hj => by
    obtain rfl : j = 0 := by simp at hj; omega
    exact cell_of (heap_alloc_same w _) 0 rfl⟩

theorem reads_two (w : World) (x y : Int) {t : TypeId} : Reads (w.alloc (.cells #[.int .i64 x, .int .i64 y] t)) (some ⟨w.heap.size, 0, none⟩) [x, y] :=
  .inr ⟨_, rfl, fun j hj => by
    have : j = 0 ∨ j = 1 := by simp at hj; omega
    rcases this with rfl | rfl
    · exact cell_of (heap_alloc_same w _) 0 rfl
    · exact cell_of (heap_alloc_same w _) 1 rfl⟩

theorem reads_tabs (w : World) (l : List Int) {t : TypeId} : Reads (w.alloc (.cells (l.map (Value.int .i64)).toArray t)) (some ⟨w.heap.size, 0, none⟩) l :=
  .inr ⟨_, rfl, fun j hj => cell_of (heap_alloc_same w _) j (by simp [hj])⟩

set_option maxHeartbeats 1000000 in
theorem lboth_at (d t : Nat) (w : World) :
    Calls Try.prog 49 #[.int .i64 d, .int .i64 t] w fun en w' => en = .returned (.slice (some ⟨w.heap.size, 0, none⟩) (tabs d t).length (tabs d t).length) ∧ w.alloc (.cells ((tabs d t).map (Value.int .i64)).toArray 3) = w' := by
  by_cases h1 : d = t
  · subst h1
    have e : tabs d d = [(d : Int)] := by simp [tabs]
    rw [e]
    go_enter Try.func49, Try.ntmps49
    go_wp2
    go_ret
    exact ⟨rfl, rfl⟩
  · by_cases h2 : t < d
    · have e : tabs d t = [(t : Int), (d : Int)] := by simp [tabs, h1, h2]
      rw [e]
      have h1' : ((d : Int) == (t : Int)) = false := beq_eq_false_iff_ne.2 (by omega)
      have h2' : (t : Int) < (d : Int) := by omega
      clear h1 h2 e
      go_enter Try.func49, Try.ntmps49
      go_wp2
      go_ret
      exact ⟨rfl, rfl⟩
    · have e : tabs d t = [(d : Int), (t : Int)] := by simp [tabs, h1, h2]
      rw [e]
      have h1' : ((d : Int) == (t : Int)) = false := beq_eq_false_iff_ne.2 (by omega)
      have h2' : ¬ ((t : Int) < (d : Int)) := by omega
      clear h1 h2 e
      go_enter Try.func49, Try.ntmps49
      go_wp2
      go_ret
      exact ⟨rfl, rfl⟩

theorem ask1_at {w : World} {vb : Nat} {q : Bool} (h : w.cell? ⟨vb, 5, none⟩ = some (.bool q)) :
    Calls Try.prog 46 #[.pointer (some ⟨vb, 0, none⟩)] w fun e w' => e = .returned (.bool q) ∧ w = w' := by
  go_enter Try.func46, Try.ntmps46
  go_wp2
  go_ret
  exact ⟨rfl, rfl⟩

theorem ask2_at {w : World} {ab wb : Nat} {mv : Value} {W : Int → Bool} {p : Int} (kind : Int) (hm : Wat w mv W) (h1 : w.cell? ⟨ab, 22, none⟩ = some (.int .i64 kind)) (h2 : w.cell? ⟨ab, 20, none⟩ = some mv) (h3 : w.cell? ⟨wb, 5, none⟩ = some (.int .i64 p)) :
    Calls Try.prog 47 #[.pointer (some ⟨ab, 0, none⟩), .pointer (some ⟨wb, 0, none⟩)] w fun e w' => e = .returned (.bool (decide (kind = 3) && W p)) ∧ w = w' := by
  have HM := Lib.hid (hm w (Keep.refl _ _) p)
  clear hm
  by_cases hk : kind = 3
  · subst hk
    rw [decide_eq_true rfl, Bool.true_and]
    generalize W p = q at HM
    go_enter Try.func47, Try.ntmps47
    go_wp2_with fail
    refine HM.out.mono ?_
    rintro e w' ⟨rfl, rfl⟩
    go_wp2_with fail
    go_ret
    exact ⟨rfl, rfl⟩
  · rw [decide_eq_false hk, Bool.false_and]
    have hk' : (kind == 3) = false := beq_eq_false_iff_ne.2 hk
    clear hk
    go_enter Try.func47, Try.ntmps47
    go_wp2_with fail
    go_ret
    exact ⟨rfl, rfl⟩

/-- With which bits a way is led on. -/
def leadB (b : Nat) (q : Bool) : Nat := 5 + b / 8 % 2 * 8 + (if b / 2 % 2 = 1 ∧ b / 16 % 2 = 1 ∧ q = false then 2 else 0)

theorem or5 {b : Nat} (hb : b < 4294967296) : bits .or .u32 5 (bits .and .u32 (b : Int) 8) = ((5 + b / 8 % 2 * 8 : Nat) : Int) := by
  rw [show (8 : Int) = ((2 ^ 3 : Nat) : Int) from rfl, and_bit b 3 hb (by decide)]
  have e : b / 8 % 2 = b / 2 ^ 3 % 2 := rfl
  rw [e]
  have : b / 2 ^ 3 % 2 = 0 ∨ b / 2 ^ 3 % 2 = 1 := by omega
  rcases this with h | h
  · rw [h]; decide
  · rw [h]; decide

set_option maxHeartbeats 2000000 in
theorem lbits_at {w : World} {mv : Value} {W : Int → Bool} (hm : Wat w mv W) (rv : Value) (b a : Nat) (e d t p : Int) (hb : b < 4294967296) (paged : Bool) (ha : a < 4294967296) :
    Calls Try.prog 10 #[rv, .agg #[.int .u32 b, .int .u32 a, .int .u32 e, .int .i64 d, .int .i64 t, .int .i64 p], .bool paged, mv] w fun en w' => en = .returned (.int .u32 (leadB b (W (if paged then p else (a : Int) / 64)) : Nat)) ∧ w.alloc (.cells #[.int .u32 b, .int .u32 a, .int .u32 e, .int .i64 d, .int .i64 t, .int .i64 p] 34) = w' := by
  have HW := Lib.hid (fun o => hm (w.alloc o) ((Keep.refl _ _).alloc _))
  have h5 := or5 hb
  obtain ⟨z, hz⟩ : ∃ z, z = 5 + b / 8 % 2 * 8 := ⟨_, rfl⟩
  rw [← hz] at h5
  have hz2 : z = 5 ∨ z = 13 := by omega
  clear hm
  by_cases h2 : b / 2 % 2 = 0
  · have e0 : leadB b (W (if paged then p else (a : Int) / 64)) = z := by unfold leadB; rw [hz]; simp [h2]
    rw [e0]
    have m2 : bits .and .u32 (b : Int) 2 = 0 := bit0 (i := 1) hb rfl (by decide) h2
    clear h2 hz hz2 e0
    cases paged
    all_goals
      go_enter Try.func10, Try.ntmps10
      go_wp2_with fail
      go_ret
      exact ⟨rfl, rfl⟩
  · have m2 : bits .and .u32 (b : Int) 2 = 2 := bit1 (i := 1) hb rfl (by decide) h2
    by_cases h16 : b / 16 % 2 = 0
    · have e0 : leadB b (W (if paged then p else (a : Int) / 64)) = z := by unfold leadB; rw [hz]; simp [h16]
      rw [e0]
      have m16 : bits .and .u32 (b : Int) 16 = 0 := bit0 (i := 4) hb rfl (by decide) h16
      clear h2 h16 hz hz2 e0
      cases paged
      all_goals
        go_enter Try.func10, Try.ntmps10
        go_wp2_with fail
        go_ret
        exact ⟨rfl, rfl⟩
    · have m16 : bits .and .u32 (b : Int) 16 = 16 := bit1 (i := 4) hb rfl (by decide) h16
      have e0 : ∀ q, leadB b q = if q = false then z + 2 else z := fun q => by unfold leadB; rw [hz]; cases q <;> simp <;> omega
      rw [e0]
      have hor : bits .or .u32 (z : Int) 2 = ((z + 2 : Nat) : Int) := by
        rcases hz2 with h | h <;> subst h <;> decide
      clear h2 h16 hz hz2 e0
      cases paged
      all_goals
        simp only [Bool.false_eq_true, if_false, if_true]
        first | (obtain ⟨q, hqq⟩ : ∃ q, W ((a : Int) / 64) = q := ⟨_, rfl⟩; rw [hqq]) | (obtain ⟨q, hqq⟩ : ∃ q, W p = q := ⟨_, rfl⟩; rw [hqq])
        have HQ := Lib.hid hqq
        clear hqq
        cases q
        all_goals
          go_enter Try.func10, Try.ntmps10
          go_wp2_with fail
          refine (HW.out _ _).mono ?_
          rintro en w' ⟨rfl, rfl⟩
          rw [HQ.out]
          go_wp2_with fail
          go_ret
          exact ⟨rfl, rfl⟩
end Go.Proofs.Ytnpnedimgfbnhaa
