/- Memories made: New, Copy, Window. -/
import Derived.Test.YtpinoejckagjbaaRam3
import Derived.Outline
import Derived.Deep.RegionLaw
import Derived.Deep.AppendLies
import Derived.Deep.DrawnRows
namespace Go.Proofs.Ytpinoejckagjbaa
open Go.RowKit Go.Mum

/-- The rows of the first k frames. -/
def rowsV (g : Nat) (ks : List Nat) : List Value := ks.map fun i => .slice (some ⟨g, 64 * i, none⟩) 64 64

theorem owns_keep {l : List Nat} {w x : World} {base : Nat} {t : TypeId} {s : Nat} {v : Value} {n : Nat} {xs : List Value} (h : w.ownsRow base t s v n xs) (hk : Keep l w x) (hn : ∀ k, v.ownBlock = some k → k ∉ l) : x.ownsRow base t s v n xs := by
  refine ⟨h.1, ?_⟩
  rcases h.2 with hh | ⟨g, cap, cur, rfl, hb, hg, r⟩
  · exact .inl hh
  · exact .inr ⟨g, cap, cur, rfl, hb, hk.heap hg (hn g rfl), r⟩

theorem owns_keep0 {w x : World} {base : Nat} {t : TypeId} {s : Nat} {v : Value} {n : Nat} {xs : List Value} (h : w.ownsRow base t s v n xs) (hk : Keep [] w x) : x.ownsRow base t s v n xs := owns_keep h hk (fun _ _ => by simp)

/-- What New leaves. -/
def NewRam (n : Nat) (w : World) (e : Ending) (w' : World) : Prop :=
  ∃ r fb g, w.heap.size ≤ r ∧ w.heap.size ≤ fb ∧ w.heap.size ≤ g ∧ e = .returned (.tuple #[.pointer (some ⟨r, 0, none⟩), .int .i64 0]) ∧
    RamAt w' r fb g (List.range n) (List.replicate (64 * n) 0) ∧ Keep [] w w'

theorem info_rows : (Try.prog.info? 48).map (fun i => (i.zero, i.size, i.bytes)) = some (some (.slice none 0 0), 1, 24) := by kernel_rfl

set_option maxHeartbeats 400000 in
theorem rnew_bad (n : Int) (w : World) (h1 : -9223372036854775808 ≤ n) (h2 : n ≤ 9223372036854775807) (h : n < 1 ∨ 512 < n) :
    Calls Try.prog 20 #[.int .i64 n] w fun e w' => e = .returned (.tuple #[.pointer none, .int .i64 2]) ∧ w = w' := by
  go_enter Try.func20, Try.ntmps20
  go_wp2_with fail
  all_goals first | (exfalso; omega) | (go_ret2; exact ⟨rfl, rfl⟩)

theorem make_u8 (k : Nat) (hk : k ≤ 140737488355328) (z : Int) (hz : z = (k : Int)) (W : World) :
    (Instr.makeSlice 48 (.int .i64 z) (.int .i64 z)).run Try.prog W = .ok (.slice (some ⟨W.heap.size, 0, none⟩) k k) (W.alloc (.cells (u8s (List.replicate k 0)).toArray 5)) := by
  obtain ⟨i0, hi, hz0, hz1, hz2⟩ := info_parts info_u8
  subst hz
  rw [run_make W 48 5 i0 (.int .u8 0) Try.underlying48 hi hz0 .i64 .i64 _ _ (by omega) (Int.le_refl _) (by rw [hz2]; omega) (by omega), hz1]
  have e : madeCells (Value.int .u8 0).cells ((k : Int).toNat * 1) = (u8s (List.replicate k 0)).toArray := by
    apply Array.toList_inj.1
    rw [show (Value.int .u8 0).cells = #[.int .u8 0] from rfl, toList_madeCells_one]
    simp [u8s]
  rw [e]
  simp

set_option maxRecDepth 100000 in
set_option maxHeartbeats 4000000 in
theorem rnew_good (n : Nat) (w : World) (h1 : 1 ≤ n) (h2 : n ≤ 512) :
    Calls Try.prog 20 #[.int .i64 n] w (NewRam n w) := by
  have j1 : ¬ ((n : Int) < 1) := by omega
  have j2 : ¬ ((512 : Int) < (n : Int)) := by omega
  have hmk := make_u8 (64 * n) (by omega) ((n : Int) * 64) (by omega)
  go_enter Try.func20, Try.ntmps20
  go_wp2_with fail
  obtain ⟨r, hr⟩ : ∃ r, r = w.heap.size := ⟨_, rfl⟩
  generalize hy : (w.alloc _).alloc _ = y
  have HY : Hid (y.heap[r]? = some (.cells #[.slice none 0 0] 121 (0, 0)) ∧ y.heap[r + 1]? = some (.cells (u8s (List.replicate (64 * n) 0)).toArray 5 (0, 0)) ∧ Keep [] w y ∧ r + 2 ≤ y.heap.size) := Lib.hid (by
    subst hy hr
    exact ⟨heap_alloc_other _ (heap_alloc_same _ _), heap_alloc_at _ (by simp), ((Keep.refl _ _).alloc _).alloc _, by simp⟩)
  rw [← hr]
  have HR := Lib.hid hr
  clear hy hr hmk j1 j2
  go_loopw [6, 7, 20] (fun _ _ kv wr => ∃ (k : Nat) (fv : Value), kv = .int .i64 k ∧ k ≤ n ∧ wr.heap[r]? = some (.cells #[fv] 121 (0, 0)) ∧ wr.heap[r + 1]? = some (.cells (u8s (List.replicate (64 * n) 0)).toArray 5 (0, 0)) ∧ wr.ownsRow (r + 2) 48 1 fv k (rowsV (r + 1) (List.range k)) ∧ Keep [] w wr ∧ r + 2 ≤ wr.heap.size) (fun _ _ kv _ => n - (intOf kv).toNat)
  case atStart => exact ⟨0, _, rfl, by omega, HY.out.1, HY.out.2.1, World.ownsRow_nil _ _ _ _, HY.out.2.2.1, HY.out.2.2.2⟩
  case round =>
    clear HY
    obtain ⟨k, fv, rfl, hk, hh, hg, hown, hK, hsz⟩ := hrel
    have HW := Lib.hid (And.intro hh (And.intro hg (And.intro hown (And.intro hK hsz))))
    by_cases hlt : k < n
    · have hcell : wr.cell? ⟨r, 0, none⟩ = some fv := cell_of hh 0 rfl
      have hfz := frozen_of hh 0
      obtain ⟨p, hp⟩ : ∃ p : Nat, p = 64 * k := ⟨_, rfl⟩
      have hkp : (k : Int) * 64 = (p : Int) := by omega
      obtain ⟨q, hq⟩ : ∃ q : Nat, q = p + 64 := ⟨_, rfl⟩
      have hw1 : IntKind.i64.wrap ((p : Int) + 64) = (q : Int) := by rw [IntWalk.i64_in _ (by omega)]; omega
      have hpq : p ≤ q := by omega
      have hqn : (q : Int) ≤ 64 * (n : Int) := by omega
      have hqp : q - p = 64 := by omega
      have hqp' : ¬ (q = p) := by omega
      have hnew : Hid (Value.slice (some ⟨r + 1, p, none⟩) 64 64 = .slice (some ⟨r + 1, 64 * k, none⟩) 64 64) := Lib.hid (by rw [hp])
      have HK1 : Hid (∀ x (w1 : World) (gg : Nat) (cap : Nat), Keep [] wr x → w1.ownsRow (r + 2) 48 1 (.slice (some ⟨gg, 0, none⟩) (k + 1) cap) (k + 1) (rowsV (r + 1) (List.range k) ++ [.slice (some ⟨r + 1, p, none⟩) 64 64]) → x.grownBy w1 fv.ownBlock →
          w1.cell? ⟨r, 0, none⟩ = some fv ∧ w1.frozen? ⟨r, 0, none⟩ = false ∧ (w1.setCell ⟨r, 0, none⟩ (.slice (some ⟨gg, 0, none⟩) (k + 1) cap)).heap[r]? = some (.cells #[.slice (some ⟨gg, 0, none⟩) (k + 1) cap] 121 (0, 0)) ∧
          (w1.setCell ⟨r, 0, none⟩ (.slice (some ⟨gg, 0, none⟩) (k + 1) cap)).heap[r + 1]? = some (.cells (u8s (List.replicate (64 * n) 0)).toArray 5 (0, 0)) ∧
          (w1.setCell ⟨r, 0, none⟩ (.slice (some ⟨gg, 0, none⟩) (k + 1) cap)).ownsRow (r + 2) 48 1 (.slice (some ⟨gg, 0, none⟩) (k + 1) cap) (k + 1) (rowsV (r + 1) (List.range (k + 1))) ∧
          Keep [] w (w1.setCell ⟨r, 0, none⟩ (.slice (some ⟨gg, 0, none⟩) (k + 1) cap)) ∧ r + 2 ≤ (w1.setCell ⟨r, 0, none⟩ (.slice (some ⟨gg, 0, none⟩) (k + 1) cap)).heap.size) := Lib.hid (by
        intro x w1 gg cap hx ho hgr
        have hlo : ∀ b, fv.ownBlock = some b → r + 2 ≤ b := fun b hb => (hown.lt b hb).1
        have hgk : Keep fv.ownBlock.toList x w1 := ⟨hgr.os, hgr.tape, hgr.output, hgr.size, fun b hb hn => hgr.block b hb (by intro e; rw [← e] at hn; simp at hn)⟩
        have hr1 : r ∉ fv.ownBlock.toList := by simp only [Option.mem_toList]; intro e; have := hlo r e; omega
        have hr2 : r + 1 ∉ fv.ownBlock.toList := by simp only [Option.mem_toList]; intro e; have := hlo (r + 1) e; omega
        have h1 : w1.heap[r]? = some (.cells #[fv] 121 (0, 0)) := hgk.heap (hx.heap hh (by simp)) hr1
        have h2 := hgk.heap (hx.heap hg (by simp)) hr2
        have hgg := ho.lt gg rfl
        refine ⟨cell_of h1 0 rfl, frozen_of h1 0, heap_set_same h1 0 _, by rw [heap_set_other (by omega)]; exact h2, ?_, ?_, ?_⟩
        · have e : rowsV (r + 1) (List.range (k + 1)) = rowsV (r + 1) (List.range k) ++ [.slice (some ⟨r + 1, p, none⟩) 64 64] := by
            rw [List.range_succ, rowsV, rowsV, List.map_append, hnew.out]; rfl
          rw [e]
          exact owns_keep ho ((Keep.refl [r] _).setCell (.inl (by simp)) _) (by intro b hb; simp [Value.ownBlock] at hb; simp; omega)
        · exact ((hK.trans hx).then hgk (fun b hb hlt => by
            rw [Option.mem_toList] at hb
            have := hlo b hb
            have := HR.out
            omega)).setCell (.inr (by have := HR.out; simp; omega)) _
        · have h3 := hx.size
          have h4 := hgr.size
          simp
          omega)
      have HO := Lib.hid hown
      have hc2 := ((Keep.refl [] wr).alloc (.cells #[.slice (some ⟨r + 1, p, none⟩) 64 64] 48)).cell hcell (by simp)
      obtain ⟨i1, hi, hz0, hz1, hz2⟩ := info_parts info_rows
      clear hh hg hown hK hp hq HW
      go_wp2_with fail
      go_region_law (refine step_append_lies _ (by rfl) (.tmp 29) (.tmp 37) 119 (by rfl) (r + 2) 48 i1 (.slice none 0 0) 1 24 Try.underlying119 hi hz0 hz1 hz2 rfl (by decide) fv k (rowsV (r + 1) (List.range k)) (by rfl) (owns_keep0 HO.out (by first | exact ((Keep.refl [] _).alloc _).drew | exact ((Keep.refl [] _).drew).alloc _)) ⟨_, 0, none⟩ 1 1 [.slice (some ⟨r + 1, p, none⟩) 64 64] (by rfl) rfl (World.news_of_block (heap_alloc_new _ _)) (by simp [Value.oneCell']) (by omega) (by unfold maxLen; omega) (by omega) (by simp; omega) _ rfl ?_; intro gg cap w1 hown1 hgrow _ _; have HX := Lib.hid (HK1.out _ w1 gg cap (by first | exact ((Keep.refl [] _).alloc _).drew | exact ((Keep.refl [] _).drew).alloc _) hown1 hgrow); clear hown1 hgrow; have hx1 := HX.out.1; have hx2 := HX.out.2.1)
      all_goals
        go_wp2_with fail
        go_roundw
        case rel => exact ⟨k + 1, _, by go_num, by omega, HX.out.2.2.1, HX.out.2.2.2.1, HX.out.2.2.2.2.1, HX.out.2.2.2.2.2.1, HX.out.2.2.2.2.2.2⟩
        case measure => simp [intOf]; omega
    · obtain rfl : k = n := by omega
      have HF : Hid (NewRam k w (.returned (.tuple #[.pointer (some ⟨r, 0, none⟩), .int .i64 0])) wr) := Lib.hid (by
        obtain ⟨gg, cap, rfl, hb, hgl⟩ := World.ownsRow.form hown (by omega)
        obtain ⟨q1, q2, cur, q3, q4⟩ : k ≤ cap ∧ cap ≤ maxLen ∧ ∃ cur : Array Value, wr.heap[gg]? = some (.cells cur 48 (0, 0)) ∧ cur.toList.take k = rowsV (r + 1) (List.range k) := by
          rcases hown.2 with ⟨e, _⟩ | ⟨g', cap', cur, e, _, hg', h1, h2, _, h4⟩
          · cases e
          · simp only [Value.slice.injEq, Option.some.injEq, Addr.mk.injEq] at e
            obtain ⟨⟨rfl, _⟩, _, rfl⟩ := e
            exact ⟨h1, h2, cur, hg', by simpa using h4⟩
        refine ⟨r, gg, r + 1, by rw [HR.out]; exact Nat.le_refl _, by have := HR.out; omega, by have := HR.out; omega, rfl, ⟨⟨cap, by rw [List.length_range]; exact ⟨hh, q1, q2⟩⟩, ⟨cur, q3, ?_⟩, hg, ?_, ?_, by simp; omega⟩, hK⟩
        · intro j hj
          rw [List.length_range] at hj
          have := congrArg (fun l => l[j]?) q4
          simp only [List.getElem?_take, hj, if_true, Array.getElem?_toList] at this
          rw [this]
          simp [rowsV, List.getD, hj]
        · intro x hx; rw [List.eq_of_mem_replicate hx]; omega
        · intro j hj
          simp only [List.length_range] at hj
          simp [List.getD, hj]; omega)
      clear hh hg hown hK HW
      go_wp2
      go_ret2
      exact HF.out
end Go.Proofs.Ytpinoejckagjbaa
