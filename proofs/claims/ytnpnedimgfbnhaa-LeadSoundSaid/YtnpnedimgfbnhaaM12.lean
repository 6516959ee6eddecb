/- Contracts of the functions that the law reaches, walked, and the plain laws on them (several texts in one). -/
import Derived.Outline
import Derived.Deep.MidRow
import Derived.Test.YtnpnedimgfbnhaaM11

/- What is done with an access: the verdict over a way, and over none. -/
namespace Go.Proofs.Ytnpnedimgfbnhaa
open Go.RowKit Go.Mum
set_option linter.unusedVariables false
set_option maxRecDepth 100000

structure Ver where
  act : Int
  frame : Int
  bits : Int
  tables : List Int
  entry : Int
  soils : Bool
  cause : Int
  addr : Int

def verV (V : Ver) (tv : Value) : Value := .agg #[.int .i64 V.act, .int .i64 V.frame, .int .u32 V.bits, tv, .int .u32 V.entry, .bool V.soils, .int .i64 V.cause, .int .u32 V.addr]

/-- What a call that hands back a verdict leaves. -/
def VerPost (V : Ver) (w : World) (e : Ending) (w' : World) : Prop := ∃ a cap, e = .returned (verV V (.slice a V.tables.length cap)) ∧ Reads w' a V.tables ∧ Keep [] w w' ∧ (V.tables = [] ∨ ∃ g, a = some ⟨g, 0, none⟩ ∧ w.heap.size ≤ g)

def failV (va kind : Int) : Ver := if 1 ≤ kind ∧ kind ≤ 3 then ⟨3, 0, 0, [], 0, false, 4 + kind, va⟩ else ⟨3, 0, 0, [], 0, false, 0, 0⟩

theorem reads_nil (w : World) : Reads w none [] := .inl rfl

set_option maxHeartbeats 2000000 in
theorem failed_at (v mv : Value) (f : Nat → Value) (ps cr va kind : Int) (b a e d t p : Int) (hk1 : -9223372036854775808 ≤ kind) (hk2 : kind ≤ 9223372036854775807) (w : World) :
    Calls Try.prog 31 #[.agg #[v, f 0, f 1, f 2, f 3, f 4, f 5, f 6, f 7, f 8, .int .u32 ps, .int .u32 cr, f 11, f 12, f 13, f 14, f 15, f 16, f 17, f 18, mv, .int .u32 va, .int .i64 kind], .agg #[.int .u32 b, .int .u32 a, .int .u32 e, .int .i64 d, .int .i64 t, .int .i64 p]] w (VerPost (failV va kind) w) := by
  by_cases h1 : kind < 1
  · rw [show failV va kind = ⟨3, 0, 0, [], 0, false, 0, 0⟩ from if_neg (by omega)]
    go_enter Try.func31, Try.ntmps31
    go_wp2_with fail
    exact bodyPost_ret (v := verV ⟨3, 0, 0, [], 0, false, 0, 0⟩ (.slice none 0 0)) (by simp [results, Try.results31, go_sem, verV]) rfl ⟨none, 0, rfl, reads_nil _, (((Keep.refl _ _).alloc _).alloc _).alloc _, .inl rfl⟩
  · by_cases h3 : 3 < kind
    · rw [show failV va kind = ⟨3, 0, 0, [], 0, false, 0, 0⟩ from if_neg (by omega)]
      go_enter Try.func31, Try.ntmps31
      go_wp2_with fail
      exact bodyPost_ret (v := verV ⟨3, 0, 0, [], 0, false, 0, 0⟩ (.slice none 0 0)) (by simp [results, Try.results31, go_sem, verV]) rfl ⟨none, 0, rfl, reads_nil _, (((Keep.refl _ _).alloc _).alloc _).alloc _, .inl rfl⟩
    · rw [show failV va kind = ⟨3, 0, 0, [], 0, false, 4 + kind, va⟩ from if_pos (by omega)]
      have h51 : 5 + kind - 1 = 4 + kind := by omega
      go_enter Try.func31, Try.ntmps31
      go_wp2_with fail
      exact bodyPost_ret (v := verV ⟨3, 0, 0, [], 0, false, 4 + kind, va⟩ (.slice none 0 0)) (by simp [results, Try.results31, go_sem, verV]) rfl ⟨none, 0, rfl, reads_nil _, (((Keep.refl _ _).alloc _).alloc _).alloc _, .inl rfl⟩

theorem reads_at {w : World} (l : List Int) (n : Nat) {t : TypeId} (h : n = w.heap.size) : Reads (w.alloc (.cells (l.map (Value.int .i64)).toArray t)) (some ⟨n, 0, none⟩) l := by
  subst h
  exact reads_tabs w l

theorem verPost_of {V : Ver} {w w' : World} {a : Option Addr} {n cap : Nat} {l : List Int} (hl : V.tables = l ∧ n = l.length) (hr : Reads w' a l) (hk : Keep [] w w') (hg : l = [] ∨ ∃ g, a = some ⟨g, 0, none⟩ ∧ w.heap.size ≤ g) : VerPost V w (.returned (verV V (.slice a n cap))) w' := by
  obtain ⟨h1, h2⟩ := hl
  exact ⟨a, cap, by rw [h1, h2], by rw [h1]; exact hr, hk, by rw [h1]; exact hg⟩

theorem info_acc : (Try.prog.info? 91).map (·.size) = some 23 := by kernel_rfl
theorem info_way : (Try.prog.info? 34).map (·.size) = some 6 := by kernel_rfl

/-- An access as it lies in a box. -/
theorem rangeAcc {x : World} {ab : Nat} {l : List Value} {t : TypeId} (h : x.heap[ab]? = some (.cells l.toArray t (0, 0))) : x.rangeAt ab 0 l :=
  fun j u hj => by rw [Nat.zero_add]; exact cell_of h j (by simpa using hj)

/-- The verdict over a way. -/
def overV (W : Int → Bool) (b : Nat) (a e : Int) (d t : Nat) (p : Int) (paged : Bool) (kind : Int) : Ver :=
  ⟨if kind = 3 ∧ (b / 16 % 2 = 0 ∨ W p = true) then 2 else 1, p, if kind = 3 ∧ (b / 16 % 2 = 0 ∨ W p = true) then 0 else (leadB b (W (if paged then p else a / 64)) : Nat), if paged then tabs d t else [], if paged then e else 0, decide (kind = 3 ∧ b / 16 % 2 = 0), 0, 0⟩

end Go.Proofs.Ytnpnedimgfbnhaa
