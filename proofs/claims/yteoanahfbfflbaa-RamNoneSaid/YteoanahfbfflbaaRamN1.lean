/- A memory with no frame: it is not there, or no call made it. -/
import Derived.Test.YteoanahfbfflbaaRamP7
namespace Go.Proofs.Yteoanahfbfflbaa
open Go.RowKit Go.Mum
set_option linter.unusedVariables false

def OkPost (ok : Bool) (w : World) (e : Ending) (w' : World) : Prop := e = .returned (.bool ok) ∧ Keep [] w w'

/-- The doc's memory of no byte. -/
theorem ref_none (w : World) : RefAt w none [] := ⟨.inl ⟨rfl, rfl⟩, by intro x hx; simp at hx, by simp⟩

theorem ok_of {ok : Bool} {w : World} {e : Ending} {w' : World} {L' : List Int} (h : FPost none L' ok w e w') : OkPost ok w e w' := by
  obtain ⟨h1, -, l, h2, h3⟩ := h
  exact ⟨h1, h3.weaken fun k hk _ => by obtain ⟨q, hq⟩ := h2 k hk; cases hq⟩

set_option maxRecDepth 100000 in
set_option maxHeartbeats 1000000 in
theorem nlay {w : World} {v : Value} (h : Sz w v 0) (a : Nat) (ha : a < 4294967296) (al : Nat) (hal : al = 1 ∨ al = 4) {src : Option Addr} {c m : Nat} (hm : m ≤ 9223372036854775807) :
    Calls Try.prog 46 #[.int .u32 a, .slice src m c, .int .i64 al, .func (.func 43) #[v] #[], .func (.func 44) #[v] #[]] w fun e w' => e = .returned (.bool (layB 0 a m al)) ∧ w = w' := by
  by_cases hyes : a % al = 0 ∧ a + m ≤ 64 * 0
  · rw [layB_yes hyes]
    obtain rfl : m = 0 := by omega
    obtain rfl : a = 0 := by omega
    have C := rwithin_any h 0 0 al (by omega) (by omega) hal
    rw [decide_eq_true (by omega)] at C
    have C := Lib.hid C
    clear h
    go_enter Try.func46, Try.ntmps46
    go_wp2_with fail
    refine C.out.mono ?_
    rintro e w' ⟨rfl, rfl⟩
    go_wp2_with fail
    refine wp_loop_rounds 1 ?_
    rw [rounds_succ]
    go_wp2_with fail
    go_ret
    exact ⟨rfl, rfl⟩
  · rw [layB_no hyes]
    exact rlay_no h a ha al hal m hm hyes

theorem Sz.keep0 {w x : World} {v : Value} {n : Nat} (h : Sz w v n) (hk : Keep [] w x) : Sz x v n := by
  rcases h with h | ⟨r, a, c, h1, h2, h3⟩
  · exact .inl h
  · exact .inr ⟨r, a, c, h1, hk.cell h2 (by simp), h3⟩

set_option maxHeartbeats 1000000 in
theorem nfill {w : World} {v : Value} (h : Sz w v 0) (a : Nat) (ha : a < 4294967296) {src : Option Addr} {c m : Nat} (hm : m ≤ 9223372036854775807) :
    Calls Try.prog 24 #[v, .int .u32 a, .slice src m c] w (OkPost (layB 0 a m 1) w) := by
  have C := Lib.hid (nlay h a ha 1 (.inl rfl) hm (src := src) (c := c))
  have hmf : ∀ (fn : Fn) (first cap : Array Value) (w : World), (Instr.makeFunc fn first cap).run Try.prog w = .ok (.func fn first cap) w := fun _ _ _ _ => rfl
  clear h
  generalize layB 0 a m 1 = ok at C
  go_enter Try.func24, Try.ntmps24
  go_wp2_with fail
  refine C.out.mono ?_
  rintro e w' ⟨rfl, rfl⟩
  go_wp2_with fail
  go_ret
  exact ⟨rfl, Keep.refl _ _⟩

set_option maxHeartbeats 1000000 in
theorem nsetbyte {w : World} {v : Value} (h : Sz w v 0) (a : Nat) (ha : a < 4294967296) (z : Int) (hz : 0 ≤ z ∧ z < 256) :
    Calls Try.prog 23 #[v, .int .u32 a, .int .u8 z] w (OkPost false w) := by
  have hK := Lib.hid ((Keep.refl [] w).alloc (.cells #[.int .u8 z] 5))
  have C := nlay (h.keep0 hK.out) a ha 1 (.inl rfl) (m := 1) (by omega) (src := some ⟨w.heap.size, 0, none⟩) (c := 1)
  rw [layB_no (by omega)] at C
  have C := Lib.hid C
  have hmf : ∀ (fn : Fn) (first cap : Array Value) (w : World), (Instr.makeFunc fn first cap).run Try.prog w = .ok (.func fn first cap) w := fun _ _ _ _ => rfl
  clear h
  go_enter Try.func23, Try.ntmps23
  go_wp2_with fail
  refine C.out.mono ?_
  rintro e w' ⟨rfl, rfl⟩
  go_wp2_with fail
  go_ret
  exact ⟨rfl, hK.out⟩

set_option maxHeartbeats 1000000 in
theorem nsetword {w : World} {v : Value} (h : Sz w v 0) (a : Nat) (ha : a < 4294967296) (z : Nat) (hz : z < 4294967296) :
    Calls Try.prog 25 #[v, .int .u32 a, .int .u32 z] w (OkPost false w) := by
  have hK := Lib.hid (fun o => (Keep.refl [] w).alloc o)
  have C := fun o => nlay (h.keep0 (hK.out o)) a ha 4 (.inr rfl) (m := 4) (by omega) (src := some ⟨w.heap.size, 0, none⟩) (c := 4)
  rw [layB_no (by omega)] at C
  have C := Lib.hid C
  have hmf : ∀ (fn : Fn) (first cap : Array Value) (w : World), (Instr.makeFunc fn first cap).run Try.prog w = .ok (.func fn first cap) w := fun _ _ _ _ => rfl
  clear h
  go_enter Try.func25, Try.ntmps25
  go_wp2_with fail
  refine (C.out _).mono ?_
  rintro e w' ⟨rfl, rfl⟩
  go_wp2_with fail
  go_ret
  exact ⟨rfl, hK.out _⟩

set_option maxHeartbeats 1000000 in
theorem nwindow {w : World} {v : Value} (h : Sz w v 0) {s : Option Addr} {m c : Nat} :
    Calls Try.prog 34 #[v, .slice s m c] w fun e w' => e = .returned (.tuple #[.pointer none, .int .i64 1]) ∧ w = w' := by
  have C := Lib.hid (rsize_any h)
  clear h
  go_enter Try.func34, Try.ntmps34
  go_wp2_with fail
  refine C.out.mono ?_
  rintro e w' ⟨rfl, rfl⟩
  go_wp2_with fail
  go_ret2
  exact ⟨rfl, rfl⟩

theorem nrefill (w : World) (a : Nat) (ha : a < 4294967296) {src : Option Addr} {c : Nat} {M : List Int} (hM : Row w src c M) (hm : M.length ≤ 9223372036854775807) :
    Calls Try.prog 50 #[.agg #[.slice none 0 0], .int .u32 a, .slice src M.length c] w (OkPost (layB 0 a M.length 1) w) := by
  by_cases hy : a + M.length ≤ 0
  · rw [layB_yes ⟨Nat.mod_one a, by omega⟩]
    exact (ffill_yes (ref_none w) a hM (by simp) (by simpa using hy)).mono fun _ _ => ok_of
  · rw [layB_no (by omega)]
    exact (ffill_no (ref_none w) a ha hm (by simp; omega)).mono fun _ _ => ok_of
end Go.Proofs.Yteoanahfbfflbaa
