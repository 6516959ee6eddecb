/- Contracts of the functions that the law reaches, walked, and the plain laws on them (several texts in one). -/
import Derived.Outline
import Derived.Deep.RegionLaw
import Derived.Deep.AppendLies
import Derived.Deep.DrawnRows
import Derived.StillTailTactics
import Derived.Test.YtgeakpeaohggoaaM12

/- Memories made: New, Copy, Window. -/
namespace Go.Proofs.Ytgeakpeaohggoaa
open Go.RowKit Go.Mum

/-- The rows of the first k frames. -/
def rowsV (g : Nat) (ks : List Nat) : List Value := ks.map fun i => .slice (some ⟨g, 64 * i, none⟩) 64 64

theorem owns_keep {l : List Nat} {w x : World} {base : Nat} {t : TypeId} {s : Nat} {v : Value} {n : Nat} {xs : List Value} (h : w.ownsRow base t s v n xs) (hk : Keep l w x) (hn : ∀ k, v.ownBlock = some k → k ∉ l) : x.ownsRow base t s v n xs := by
  refine ⟨h.1, ?_⟩
  rcases h.2 with hh | ⟨g, cap, cur, rfl, hb, hg, r⟩
  · exact .inl hh
  · exact .inr ⟨g, cap, cur, rfl, hb, hk.heap hg (hn g rfl), r⟩

theorem owns_keep0 {w x : World} {base : Nat} {t : TypeId} {s : Nat} {v : Value} {n : Nat} {xs : List Value} (h : w.ownsRow base t s v n xs) (hk : Keep [] w x) : x.ownsRow base t s v n xs := owns_keep h hk (fun _ _ => by simp)

/-- What New leaves. -/
def NewRam (n : Nat) (w : World) (e : Ending) (w' : World) : Prop :=
  ∃ r fb g, w.heap.size ≤ r ∧ w.heap.size ≤ fb ∧ w.heap.size ≤ g ∧ e = .returned (.tuple #[.pointer (some ⟨r, 0, none⟩), .int .i64 0]) ∧
    RamAt w' r fb g (List.range n) (List.replicate (64 * n) 0) ∧ Keep [] w w'

theorem info_rows : (Try.prog.info? 22).map (fun i => (i.zero, i.size, i.bytes)) = some (some (.slice none 0 0), 1, 24) := by kernel_rfl

set_option maxHeartbeats 400000 in
theorem rnew_bad (n : Int) (w : World) (h1 : -9223372036854775808 ≤ n) (h2 : n ≤ 9223372036854775807) (h : n < 1 ∨ 512 < n) :
    Calls Try.prog 48 #[.int .i64 n] w fun e w' => e = .returned (.tuple #[.pointer none, .int .i64 2]) ∧ w = w' := by
  go_enter Try.func48, Try.ntmps48
  go_wp2_with fail
  all_goals first | (exfalso; omega) | (go_ret2; exact ⟨rfl, rfl⟩)

theorem make_u8 (k : Nat) (hk : k ≤ 140737488355328) (z : Int) (hz : z = (k : Int)) (W : World) :
    (Instr.makeSlice 22 (.int .i64 z) (.int .i64 z)).run Try.prog W = .ok (.slice (some ⟨W.heap.size, 0, none⟩) k k) (W.alloc (.cells (u8s (List.replicate k 0)).toArray 5)) := by
  obtain ⟨i0, hi, hz0, hz1, hz2⟩ := info_parts info_u8
  subst hz
  rw [run_make W 22 5 i0 (.int .u8 0) Try.underlying22 hi hz0 .i64 .i64 _ _ (by omega) (Int.le_refl _) (by rw [hz2]; omega) (by omega), hz1]
  have e : madeCells (Value.int .u8 0).cells ((k : Int).toNat * 1) = (u8s (List.replicate k 0)).toArray := by
    apply Array.toList_inj.1
    rw [show (Value.int .u8 0).cells = #[.int .u8 0] from rfl, toList_madeCells_one]
    simp [u8s]
  rw [e]
  simp

set_option maxRecDepth 100000 in
set_option maxHeartbeats 4000000 in
theorem rnew_good (n : Nat) (w : World) (h1 : 1 ≤ n) (h2 : n ≤ 512) :
    Calls Try.prog 48 #[.int .i64 n] w (NewRam n w) := by
  have j1 : ¬ ((n : Int) < 1) := by omega
  have j2 : ¬ ((512 : Int) < (n : Int)) := by omega
  have hmk := make_u8 (64 * n) (by omega) ((n : Int) * 64) (by omega)
  go_enter Try.func48, Try.ntmps48
  go_wp2_with fail
  obtain ⟨r, hr⟩ : ∃ r, r = w.heap.size := ⟨_, rfl⟩
  generalize hy : (w.alloc _).alloc _ = y
  have HY : Hid (y.heap[r]? = some (.cells #[.slice none 0 0] 109 (0, 0)) ∧ y.heap[r + 1]? = some (.cells (u8s (List.replicate (64 * n) 0)).toArray 5 (0, 0)) ∧ Keep [] w y ∧ r + 2 ≤ y.heap.size) := Lib.hid (by
    subst hy hr
    exact ⟨heap_alloc_other _ (heap_alloc_same _ _), heap_alloc_at _ (by simp), ((Keep.refl _ _).alloc _).alloc _, by simp⟩)
  rw [← hr]
  have HR := Lib.hid hr
  clear hy hr hmk j1 j2
  go_loopw [6, 7, 20] (fun _ _ kv wr => ∃ (k : Nat) (fv : Value), kv = .int .i64 k ∧ k ≤ n ∧ wr.heap[r]? = some (.cells #[fv] 109 (0, 0)) ∧ wr.heap[r + 1]? = some (.cells (u8s (List.replicate (64 * n) 0)).toArray 5 (0, 0)) ∧ wr.ownsRow (r + 2) 22 1 fv k (rowsV (r + 1) (List.range k)) ∧ Keep [] w wr ∧ r + 2 ≤ wr.heap.size) (fun _ _ kv _ => n - (intOf kv).toNat)
  case atStart => exact ⟨0, _, rfl, by omega, HY.out.1, HY.out.2.1, World.ownsRow_nil _ _ _ _, HY.out.2.2.1, HY.out.2.2.2⟩
  case round =>
    clear HY
    obtain ⟨k, fv, rfl, hk, hh, hg, hown, hK, hsz⟩ := hrel
    have HW := Lib.hid (And.intro hh (And.intro hg (And.intro hown (And.intro hK hsz))))
    by_cases hlt : k < n
    · have hcell : wr.cell? ⟨r, 0, none⟩ = some fv := cell_of hh 0 rfl
      have hfz := frozen_of hh 0
      obtain ⟨p, hp⟩ : ∃ p : Nat, p = 64 * k := ⟨_, rfl⟩
      have hkp : (k : Int) * 64 = (p : Int) := by omega
      obtain ⟨q, hq⟩ : ∃ q : Nat, q = p + 64 := ⟨_, rfl⟩
      have hw1 : IntKind.i64.wrap ((p : Int) + 64) = (q : Int) := by rw [IntWalk.i64_in _ (by omega)]; omega
      have hpq : p ≤ q := by omega
      have hqn : (q : Int) ≤ 64 * (n : Int) := by omega
      have hqp : q - p = 64 := by omega
      have hqp' : ¬ (q = p) := by omega
      have hnew : Hid (Value.slice (some ⟨r + 1, p, none⟩) 64 64 = .slice (some ⟨r + 1, 64 * k, none⟩) 64 64) := Lib.hid (by rw [hp])
      have HK1 : Hid (∀ x (w1 : World) (gg : Nat) (cap : Nat), Keep [] wr x → w1.ownsRow (r + 2) 22 1 (.slice (some ⟨gg, 0, none⟩) (k + 1) cap) (k + 1) (rowsV (r + 1) (List.range k) ++ [.slice (some ⟨r + 1, p, none⟩) 64 64]) → x.grownBy w1 fv.ownBlock →
          w1.cell? ⟨r, 0, none⟩ = some fv ∧ w1.frozen? ⟨r, 0, none⟩ = false ∧ (w1.setCell ⟨r, 0, none⟩ (.slice (some ⟨gg, 0, none⟩) (k + 1) cap)).heap[r]? = some (.cells #[.slice (some ⟨gg, 0, none⟩) (k + 1) cap] 109 (0, 0)) ∧
          (w1.setCell ⟨r, 0, none⟩ (.slice (some ⟨gg, 0, none⟩) (k + 1) cap)).heap[r + 1]? = some (.cells (u8s (List.replicate (64 * n) 0)).toArray 5 (0, 0)) ∧
          (w1.setCell ⟨r, 0, none⟩ (.slice (some ⟨gg, 0, none⟩) (k + 1) cap)).ownsRow (r + 2) 22 1 (.slice (some ⟨gg, 0, none⟩) (k + 1) cap) (k + 1) (rowsV (r + 1) (List.range (k + 1))) ∧
          Keep [] w (w1.setCell ⟨r, 0, none⟩ (.slice (some ⟨gg, 0, none⟩) (k + 1) cap)) ∧ r + 2 ≤ (w1.setCell ⟨r, 0, none⟩ (.slice (some ⟨gg, 0, none⟩) (k + 1) cap)).heap.size) := Lib.hid (by
        intro x w1 gg cap hx ho hgr
        have hlo : ∀ b, fv.ownBlock = some b → r + 2 ≤ b := fun b hb => (hown.lt b hb).1
        have hgk : Keep fv.ownBlock.toList x w1 := ⟨hgr.os, hgr.tape, hgr.output, hgr.size, fun b hb hn => hgr.block b hb (by intro e; rw [← e] at hn; simp at hn)⟩
        have hr1 : r ∉ fv.ownBlock.toList := by simp only [Option.mem_toList]; intro e; have := hlo r e; omega
        have hr2 : r + 1 ∉ fv.ownBlock.toList := by simp only [Option.mem_toList]; intro e; have := hlo (r + 1) e; omega
        have h1 : w1.heap[r]? = some (.cells #[fv] 109 (0, 0)) := hgk.heap (hx.heap hh (by simp)) hr1
        have h2 := hgk.heap (hx.heap hg (by simp)) hr2
        have hgg := ho.lt gg rfl
        refine ⟨cell_of h1 0 rfl, frozen_of h1 0, heap_set_same h1 0 _, by rw [heap_set_other (by omega)]; exact h2, ?_, ?_, ?_⟩
        · have e : rowsV (r + 1) (List.range (k + 1)) = rowsV (r + 1) (List.range k) ++ [.slice (some ⟨r + 1, p, none⟩) 64 64] := by
            rw [List.range_succ, rowsV, rowsV, List.map_append, hnew.out]; rfl
          rw [e]
          exact owns_keep ho ((Keep.refl [r] _).setCell (.inl (by simp)) _) (by intro b hb; simp [Value.ownBlock] at hb; simp; omega)
        · exact ((hK.trans hx).then hgk (fun b hb hlt => by
            rw [Option.mem_toList] at hb
            have := hlo b hb
            have := HR.out
            omega)).setCell (.inr (by have := HR.out; simp; omega)) _
        · have h3 := hx.size
          have h4 := hgr.size
          simp
          omega)
      have HO := Lib.hid hown
      have hc2 := ((Keep.refl [] wr).alloc (.cells #[.slice (some ⟨r + 1, p, none⟩) 64 64] 22)).cell hcell (by simp)
      obtain ⟨i1, hi, hz0, hz1, hz2⟩ := info_parts info_rows
      clear hh hg hown hK hp hq HW
      go_wp2_with fail
      go_region_law (refine step_append_lies _ (by rfl) (.tmp 29) (.tmp 37) 107 (by rfl) (r + 2) 22 i1 (.slice none 0 0) 1 24 Try.underlying107 hi hz0 hz1 hz2 rfl (by decide) fv k (rowsV (r + 1) (List.range k)) (by rfl) (owns_keep0 HO.out (by first | exact ((Keep.refl [] _).alloc _).drew | exact ((Keep.refl [] _).drew).alloc _)) ⟨_, 0, none⟩ 1 1 [.slice (some ⟨r + 1, p, none⟩) 64 64] (by rfl) rfl (World.news_of_block (heap_alloc_new _ _)) (by simp [Value.oneCell']) (by omega) (by unfold maxLen; omega) (by omega) (by simp; omega) _ rfl ?_; intro gg cap w1 hown1 hgrow _ _; have HX := Lib.hid (HK1.out _ w1 gg cap (by first | exact ((Keep.refl [] _).alloc _).drew | exact ((Keep.refl [] _).drew).alloc _) hown1 hgrow); clear hown1 hgrow; have hx1 := HX.out.1; have hx2 := HX.out.2.1)
      all_goals
        go_wp2_with fail
        go_roundw
        case rel => exact ⟨k + 1, _, by go_num, by omega, HX.out.2.2.1, HX.out.2.2.2.1, HX.out.2.2.2.2.1, HX.out.2.2.2.2.2.1, HX.out.2.2.2.2.2.2⟩
        case measure => simp [intOf]; omega
    · obtain rfl : k = n := by omega
      have HF : Hid (NewRam k w (.returned (.tuple #[.pointer (some ⟨r, 0, none⟩), .int .i64 0])) wr) := Lib.hid (by
        obtain ⟨gg, cap, rfl, hb, hgl⟩ := World.ownsRow.form hown (by omega)
        obtain ⟨q1, q2, cur, q3, q4⟩ : k ≤ cap ∧ cap ≤ maxLen ∧ ∃ cur : Array Value, wr.heap[gg]? = some (.cells cur 22 (0, 0)) ∧ cur.toList.take k = rowsV (r + 1) (List.range k) := by
          rcases hown.2 with ⟨e, _⟩ | ⟨g', cap', cur, e, _, hg', h1, h2, _, h4⟩
          · cases e
          · simp only [Value.slice.injEq, Option.some.injEq, Addr.mk.injEq] at e
            obtain ⟨⟨rfl, _⟩, _, rfl⟩ := e
            exact ⟨h1, h2, cur, hg', by simpa using h4⟩
        refine ⟨r, gg, r + 1, by rw [HR.out]; exact Nat.le_refl _, by have := HR.out; omega, by have := HR.out; omega, rfl, ⟨⟨cap, by rw [List.length_range]; exact ⟨hh, q1, q2⟩⟩, ⟨cur, q3, ?_⟩, hg, ?_, ?_, by simp; omega⟩, hK⟩
        · intro j hj
          rw [List.length_range] at hj
          have := congrArg (fun l => l[j]?) q4
          simp only [List.getElem?_take, hj, if_true, Array.getElem?_toList] at this
          rw [this]
          simp [rowsV, List.getD, hj]
        · intro x hx; rw [List.eq_of_mem_replicate hx]; omega
        · intro j hj
          simp only [List.length_range] at hj
          simp [List.getD, hj]; omega)
      clear hh hg hown hK HW
      go_wp2
      go_ret2
      exact HF.out
end Go.Proofs.Ytgeakpeaohggoaa

/- A memory copied. -/
namespace Go.Proofs.Ytgeakpeaohggoaa
open Go.RowKit Go.Mum

/-- All the bytes, frame behind frame. -/
def view (ks : List Nat) (L : List Int) : List Int := (List.range ks.length).flatMap (frameOf ks L)

theorem flat_length {f : Nat → List Int} {k : Nat} (h : ∀ j, j < k → (f j).length = 64) : ((List.range k).flatMap f).length = 64 * k := by
  induction k with
  | zero => rfl
  | succ k ih =>
    rw [List.range_succ, List.flatMap_append, List.length_append, ih (fun j hj => h j (by omega))]
    simp [h k (by omega)]
    omega

theorem flat_range (L : List Int) (n : Nat) : ∀ k, k ≤ n → (List.range k).flatMap (frameOf (List.range n) L) = L.take (64 * k) := by
  intro k
  induction k with
  | zero => intro _; simp
  | succ k ih =>
    intro hk
    rw [List.range_succ, List.flatMap_append, ih (by omega)]
    have e : frameOf (List.range n) L k = (L.drop (64 * k)).take 64 := by
      unfold frameOf
      simp [List.getD, List.getElem?_range (show k < n by omega)]
    simp only [List.flatMap_cons, List.flatMap_nil, List.append_nil, e]
    rw [show 64 * (k + 1) = 64 * k + 64 by omega, List.take_add]

theorem view_range {L : List Int} {n : Nat} (h : L.length = 64 * n) : view (List.range n) L = L := by
  unfold view
  rw [List.length_range, flat_range L n n (Nat.le_refl _), List.take_of_length_le (by omega)]

theorem pl_range {n a : Nat} (h : a < 64 * n) : pl (List.range n) a = a := by
  unfold pl
  simp [List.getD, List.getElem?_range (show a / 64 < n by omega)]
  omega

/-- What Copy leaves. -/
def CopyPost (n : Nat) (L : List Int) (w : World) (e : Ending) (w' : World) : Prop :=
  ∃ r fb g, w.heap.size ≤ r ∧ w.heap.size ≤ fb ∧ w.heap.size ≤ g ∧ e = .returned (.pointer (some ⟨r, 0, none⟩)) ∧ RamAt w' r fb g (List.range n) L ∧ Keep [] w w'

end Go.Proofs.Ytgeakpeaohggoaa

/- The document's memory: its calls, one by one. -/
namespace Go.Proofs.Ytgeakpeaohggoaa
open Go.RowKit Go.Mum

/-- The document's memory: its bytes L lie in a block of their own; or there is none. -/
def RefAt (w : World) (a : Option Addr) (L : List Int) : Prop :=
  ((a = none ∧ L = []) ∨ ∃ q, a = some ⟨q, 0, none⟩ ∧ w.heap[q]? = some (.cells (u8s L).toArray 5 (0, 0))) ∧ IsBytes L ∧ L.length ≤ 32768

theorem RefAt.keep {l : List Nat} {w x : World} {a : Option Addr} {L : List Int} (h : RefAt w a L) (hk : Keep l w x) (hn : ∀ b, a = some b → b.block ∉ l) : RefAt x a L :=
  ⟨h.1.imp id fun ⟨q, e, hq⟩ => ⟨q, e, hk.heap hq (by simpa using hn _ e)⟩, h.2⟩

theorem RefAt.keep0 {w x : World} {a : Option Addr} {L : List Int} (h : RefAt w a L) (hk : Keep [] w x) : RefAt x a L := h.keep hk (fun _ _ => by simp)

theorem RefAt.some_of {w : World} {a : Option Addr} {L : List Int} (h : RefAt w a L) (h0 : 0 < L.length) : ∃ q, a = some ⟨q, 0, none⟩ ∧ w.heap[q]? = some (.cells (u8s L).toArray 5 (0, 0)) := by
  rcases h.1 with ⟨_, rfl⟩ | h
  · simp at h0
  · exact h

theorem RefAt.row {w : World} {a : Option Addr} {L : List Int} (h : RefAt w a L) : Row w a L.length L := by
  refine ⟨h.2.1, ⟨Nat.le_refl _, by have := h.2.2; unfold maxLen; omega⟩, ?_⟩
  rcases h.1 with ⟨rfl, rfl⟩ | ⟨q, rfl, hq⟩
  · exact .inl ⟨rfl, rfl, rfl⟩
  · exact .inr (.inr ⟨q, 0, rfl, fun i hi => by rw [Nat.zero_add]; exact cell_of hq i (by simp [u8s, List.getElem?_eq_getElem hi, List.getD])⟩)

theorem u8_cell {w : World} {q : Nat} {L : List Int} {t : TypeId} (h : w.heap[q]? = some (.cells (u8s L).toArray t (0, 0))) {j : Nat} (hj : j < L.length) : w.cell? ⟨q, j, none⟩ = some (.int .u8 (L.getD j 0)) :=
  cell_of h j (by simp [u8s, List.getElem?_eq_getElem hj, List.getD])

theorem u8_byte {L : List Int} (h : IsBytes L) {j : Nat} (hj : j < L.length) : 0 ≤ L.getD j 0 ∧ L.getD j 0 < 256 := h _ (by simp [List.getD, List.getElem?_eq_getElem hj])

theorem u8_set {w : World} {q : Nat} {L : List Int} {t : TypeId} (h : w.heap[q]? = some (.cells (u8s L).toArray t (0, 0))) (j : Nat) (z : Int) : (w.setCell ⟨q, j, none⟩ (.int .u8 z)).heap[q]? = some (.cells (u8s (L.set j z)).toArray t (0, 0)) := by
  rw [heap_set_same h]
  simp [u8s, List.map_set]

set_option maxHeartbeats 400000 in
theorem fnew_at (n : Nat) (w : World) (hn : n ≤ 512) :
    Calls Try.prog 49 #[.int .i64 n] w fun e w' => e = .returned (.agg #[.slice (some ⟨w.heap.size + 1, 0, none⟩) (64 * n) (64 * n)]) ∧ RefAt w' (some ⟨w.heap.size + 1, 0, none⟩) (List.replicate (64 * n) 0) ∧ Keep [] w w' := by
  have hmk := make_u8 (64 * n) (by omega) ((n : Int) * 64) (by omega)
  go_enter Try.func49, Try.ntmps49
  go_wp2_with fail
  refine bodyPost_ret (v := .agg #[.slice (some ⟨w.heap.size + 1, 0, none⟩) (64 * n) (64 * n)]) (by simp [results, Try.results49, go_sem]) rfl ⟨rfl, ?_, ?_⟩
  · exact ⟨.inr ⟨_, rfl, heap_alloc_at _ (by simp)⟩, (by intro x hx; rw [List.eq_of_mem_replicate hx]; omega), by rw [List.length_replicate]; omega⟩
  · exact ((Keep.refl _ _).alloc _).alloc _

/-- What a call that lays bytes leaves. -/
def FPost (a : Option Addr) (L' : List Int) (ok : Bool) (w : World) (e : Ending) (w' : World) : Prop :=
  e = .returned (.bool ok) ∧ RefAt w' a L' ∧ ∃ l, (∀ k ∈ l, ∃ q, a = some ⟨k, q, none⟩) ∧ Keep l w w'

set_option maxHeartbeats 400000 in
theorem fsetbyte_yes {w : World} {a : Option Addr} {L : List Int} (h : RefAt w a L) (i : Nat) (hi : i < L.length) (z : Int) (hz : 0 ≤ z ∧ z < 256) :
    Calls Try.prog 51 #[.agg #[.slice a L.length L.length], .int .u32 i, .int .u8 z] w (FPost a (L.set i z) true w) := by
  have hl := h.2.2
  obtain ⟨q, rfl, hq⟩ := h.some_of (by omega)
  have hc : ∀ o, (w.alloc o).cell? ⟨q, i, none⟩ = some (.int .u8 (L.getD i 0)) := fun o => ((Keep.refl [] w).alloc o).cell (u8_cell hq hi) (by simp)
  have hf : ∀ o, (w.alloc o).frozen? ⟨q, i, none⟩ = false := fun o => frozen_of (heap_alloc_other o hq) i
  have hc2 := hc (.cells #[.slice (some ⟨q, 0, none⟩) L.length L.length] 55)
  have hf2 := hf (.cells #[.slice (some ⟨q, 0, none⟩) L.length L.length] 55)
  have hi' : ¬ ((L.length : Int) ≤ (i : Int)) := by omega
  have hi'' : (i : Int) < (L.length : Int) := by omega
  have HF : Hid (∀ o, FPost (some ⟨q, 0, none⟩) (L.set i z) true w (.returned (.bool true)) ((w.alloc o).setCell ⟨q, i, none⟩ (.int .u8 z))) := Lib.hid fun o => ⟨rfl, ⟨.inr ⟨q, rfl, u8_set (heap_alloc_other o hq) i z⟩, (by
    intro x hx
    rcases List.mem_or_eq_of_mem_set hx with hx | rfl
    · exact h.2.1 x hx
    · exact hz), by rw [List.length_set]; exact hl⟩, [q], by simp, ((Keep.refl _ _).alloc _).setCell (.inl (by simp)) _⟩
  clear hc hf h
  go_enter Try.func51, Try.ntmps51
  go_wp2
  go_ret
  exact HF.out _

theorem f_no {w : World} {a : Option Addr} {L : List Int} (h : RefAt w a L) (o : Obj) : FPost a L false w (.returned (.bool false)) (w.alloc o) :=
  ⟨rfl, h.keep0 ((Keep.refl _ _).alloc _), [], by simp, (Keep.refl _ _).alloc _⟩

set_option maxHeartbeats 400000 in
theorem fsetbyte_no {w : World} {a : Option Addr} {L : List Int} (h : RefAt w a L) (i : Nat) (hi : L.length ≤ i) (hi2 : i < 4294967296) (z : Int) :
    Calls Try.prog 51 #[.agg #[.slice a L.length L.length], .int .u32 i, .int .u8 z] w (FPost a L false w) := by
  have hl := h.2.2
  have hi' : (L.length : Int) ≤ (i : Int) := by omega
  have HF := Lib.hid (f_no h)
  clear h
  go_enter Try.func51, Try.ntmps51
  go_wp2
  go_ret
  exact HF.out _

end Go.Proofs.Ytgeakpeaohggoaa

/- The document's memory: words and bytes laid, frames. -/
namespace Go.Proofs.Ytgeakpeaohggoaa
open Go.RowKit Go.Mum

theorem le4_take {s : Nat} (hs : s < 4294967296) : ∀ k, k < 4 → (le4 s).take (k + 1) = (le4 s).take k ++ [((s / 256 ^ k % 256 : Nat) : Int)]
  | 0, _ => by simp [le4]
  | 1, _ => by simp [le4]
  | 2, _ => by simp [le4]
  | 3, _ => by simp [le4]; omega
  | k + 4, h => by omega

theorem splice_snoc (L : List Int) (p : Nat) (M : List Int) (x : Int) (h : p + M.length < L.length) : (splice L p M).set (p + M.length) x = splice L p (M ++ [x]) := by
  unfold splice
  rw [List.set_append_right _ _ (by rw [List.length_take]; omega), List.length_take, Nat.min_eq_left (by omega), Nat.add_sub_cancel_left, List.set_append_right _ _ (Nat.le_refl _), Nat.sub_self,
    List.drop_eq_getElem_cons h, List.set_cons_zero, List.length_append, List.append_assoc]
  rfl

theorem splice_len (L : List Int) (p : Nat) (M : List Int) (h : p + M.length ≤ L.length) : (splice L p M).length = L.length := length_splice L p M h

theorem refAt_put {w x : World} {q : Nat} {L L' : List Int} (h : RefAt w (some ⟨q, 0, none⟩) L) (hq : x.heap[q]? = some (.cells (u8s L').toArray 5 (0, 0))) (hb : IsBytes L') (hl : L'.length = L.length) : RefAt x (some ⟨q, 0, none⟩) L' :=
  ⟨.inr ⟨q, rfl, hq⟩, hb, by rw [hl]; exact h.2.2⟩

theorem take_snoc {M : List Int} {j : Nat} (h : j < M.length) : M.take (j + 1) = M.take j ++ [M.getD j 0] := by
  rw [List.take_add_one, List.getElem?_eq_getElem h]
  simp [List.getD, List.getElem?_eq_getElem h]

end Go.Proofs.Ytgeakpeaohggoaa

/- The document's memory: copies and frames. -/
namespace Go.Proofs.Ytgeakpeaohggoaa
open Go.RowKit Go.Mum

/-- What a call that hands back bytes leaves. -/
def RowPost (M : List Int) (w : World) (e : Ending) (w' : World) : Prop := ∃ a c, e = .returned (.slice a M.length c) ∧ Row w' a c M ∧ Keep [] w w'

theorem rowPost_own {M : List Int} {w : World} {e : Ending} {w' : World} (h : OwnPost M w e w') : RowPost M w e w' := by
  obtain ⟨v, rfl, ho, hk⟩ := h
  obtain ⟨a, c, rfl, hr⟩ := ho.shape
  exact ⟨a, c, rfl, hr, hk⟩

theorem rowPost_none {w : World} : RowPost [] w (.returned (.slice none 0 0)) w := ⟨Option.none, 0, rfl, Row.nil w, Keep.refl _ _⟩

theorem own_grown {w x y : World} {v : Value} (h : Keep [] w x) (hg : x.grownBy y v.ownBlock) {L : List Int} (ho : Go.Mum.Own x w.heap.size 5 v L) : Keep [] w y :=
  h.grown hg fun k hk => .inr (ho.block k hk).1

/-- What Copy leaves. -/
def FCopyPost (L : List Int) (w : World) (e : Ending) (w' : World) : Prop := ∃ v, e = .returned (.agg #[v]) ∧ Go.Mum.Own w' w.heap.size 5 v L ∧ Keep [] w w'

set_option maxRecDepth 100000 in
set_option maxHeartbeats 2000000 in
theorem fcopy_at {w : World} {a : Option Addr} {L : List Int} (h : RefAt w a L) :
    Calls Try.prog 53 #[.agg #[.slice a L.length L.length]] w (FCopyPost L w) := by
  have hl := h.2.2
  have H := Lib.hid h
  clear h
  go_enter Try.func53, Try.ntmps53
  go_wp2_with fail
  obtain ⟨y, hy⟩ : ∃ y, y = (w.alloc (.cells #[.slice a L.length L.length] 55)).alloc (.cells #[.slice none 0 0] 55) := ⟨_, rfl⟩
  have HY : Hid (Keep [] w y ∧ y.cell? ⟨w.heap.size, 0, none⟩ = some (.slice a L.length L.length) ∧ y.heap[w.heap.size + 1]? = some (.cells #[.slice none 0 0] 55 (0, 0)) ∧ w.heap.size + 2 ≤ y.heap.size) := Lib.hid (by
    subst hy
    exact ⟨((Keep.refl _ _).alloc _).alloc _, cell_of (heap_alloc_other _ (heap_alloc_same _ _)) 0 rfl, heap_alloc_at _ (by simp), by simp⟩)
  rw [← hy]
  clear hy
  go_loopw [3, 4] (fun o i wr => ∃ j : Nat, i = .int .i64 j ∧ j ≤ L.length ∧ Go.Mum.Own wr (w.heap.size + 2) 5 o (L.take j) ∧ Keep [] w wr ∧ wr.cell? ⟨w.heap.size, 0, none⟩ = some (.slice a L.length L.length) ∧ wr.heap[w.heap.size + 1]? = some (.cells #[.slice none 0 0] 55 (0, 0)) ∧ w.heap.size + 2 ≤ wr.heap.size) (fun _ i _ => L.length - (intOf i).toNat)
  case atStart => exact ⟨0, rfl, by omega, Go.Mum.Own.nil _ _ _, HY.out.1, HY.out.2.1, HY.out.2.2.1, HY.out.2.2.2⟩
  case round =>
    clear HY
    obtain ⟨j, rfl, hj, hO, hK, hcb, hbl, hsz⟩ := hrel
    by_cases hlt : j < L.length
    · obtain ⟨q, rfl, hq⟩ := (H.out.keep0 hK).some_of (by omega)
      have hc := u8_cell hq hlt
      have hx := u8_byte H.out.2.1 hlt
      have hT := Lib.hid (take_snoc hlt)
      have HO := Lib.hid (And.intro hO (And.intro hK (And.intro hcb hbl)))
      generalize L.getD j 0 = x at hc hx hT
      clear hO hK hq hbl
      have HS : Hid (∀ v2 w2, wr.alloc (.cells #[.int .u8 x] 5) |>.grownBy w2 u3.ownBlock → Go.Mum.Own w2 (w.heap.size + 2) 5 v2 (L.take j ++ [x]) → Go.Mum.Own w2 (w.heap.size + 2) 5 v2 (L.take (j + 1)) ∧ Keep [] w w2 ∧ w2.cell? ⟨w.heap.size, 0, none⟩ = some (.slice (some ⟨q, 0, none⟩) L.length L.length) ∧ w2.heap[w.heap.size + 1]? = some (.cells #[.slice none 0 0] 55 (0, 0)) ∧ w.heap.size + 2 ≤ w2.heap.size) := Lib.hid (by
        intro v2 w2 hg ho
        have hlo : ∀ k, u3.ownBlock = some k → w.heap.size + 2 ≤ k := fun k hk => (HO.out.1.block k hk).1
        have hgk : Keep u3.ownBlock.toList (wr.alloc (.cells #[.int .u8 x] 5)) w2 := ⟨hg.os, hg.tape, hg.output, hg.size, fun b hb hn => hg.block b hb (by intro e; rw [← e] at hn; simp at hn)⟩
        refine ⟨by rw [hT.out]; exact ho, (HO.out.2.1.alloc _).then hgk (fun k hk hlt => by rw [Option.mem_toList] at hk; have := hlo k hk; omega), ?_, ?_, ?_⟩
        · exact hgk.cell (((Keep.refl [] wr).alloc _).cell HO.out.2.2.1 (by simp)) (by simp only [Option.mem_toList]; intro e; have := hlo _ e; omega)
        · exact hgk.heap (heap_alloc_other _ HO.out.2.2.2) (by simp only [Option.mem_toList]; intro e; have := hlo _ e; omega)
        · have := hg.size; simp at this; omega)
      go_wp2_with (at_builtin; refine wpList_append_row rfl _ _ 22 rfl (w.heap.size + 2) 5 Try.underlying22 info_u8 u3 (L.take j) [x] rfl (HO.out.1.keep0 ((Keep.refl [] wr).alloc _)) (some ⟨wr.heap.size, 0, none⟩) _ 1 rfl rfl (row_one wr _ hx) (by simp; omega) (by simp; omega) ?_; intro v2 w2 ho hg; have HG := Lib.hid (HS.out v2 w2 hg ho); clear ho hg)
      go_roundw
      case rel => exact ⟨j + 1, by go_num, by omega, HG.out.1, HG.out.2.1, HG.out.2.2.1, HG.out.2.2.2.1, HG.out.2.2.2.2⟩
      case measure => simp [intOf]; omega
    · obtain rfl : j = L.length := by omega
      have hcr : wr.cell? ⟨w.heap.size + 1, 0, none⟩ = some (.slice none 0 0) := cell_of hbl 0 rfl
      have hfr := frozen_of hbl 0
      rw [List.take_length] at hO
      obtain ⟨a', c', rfl, -⟩ := hO.shape
      have HF : Hid (FCopyPost L w (.returned (.agg #[.slice a' L.length c'])) (wr.setCell ⟨w.heap.size + 1, 0, none⟩ (.slice a' L.length c'))) := Lib.hid ⟨_, rfl, by
        exact (hO.keep ((Keep.refl [w.heap.size + 1] wr).setCell (.inl (by simp)) _) (by intro k hk; have := hO.block k hk; simp; omega)).lower (by omega), hK.setCell (.inr (by simp)) _⟩
      clear hO hK hbl
      go_wp2_with fail
      exact bodyPost_ret (v := .agg #[.slice a' L.length c']) (by simp [results, Try.results53, go_sem, World.cell?_setCell_same, hcr]) rfl HF.out

set_option maxHeartbeats 1000000 in
theorem fframe_no {w : World} {a : Option Addr} {L : List Int} (h : RefAt w a L) (k : Int) (h1 : -9223372036854775808 ≤ k) (h2 : k ≤ 9223372036854775807) (hk : k < 0 ∨ (L.length : Int) / 64 ≤ k) :
    Calls Try.prog 23 #[.agg #[.slice a L.length L.length], .int .i64 k] w (RowPost [] w) := by
  have hl := h.2.2
  have HF : Hid (∀ o, RowPost [] w (.returned (.slice none 0 0)) (w.alloc o)) := Lib.hid fun o => ⟨none, 0, rfl, Row.nil _, (Keep.refl _ _).alloc _⟩
  clear h
  by_cases h0 : k < 0
  · clear hk
    go_enter Try.func23, Try.ntmps23
    go_wp2_with fail
    go_ret
    exact HF.out _
  · have hk' : (L.length : Int) / 64 ≤ k := by omega
    clear hk
    go_enter Try.func23, Try.ntmps23
    go_wp2_with fail
    go_ret
    exact HF.out _

set_option maxRecDepth 100000 in
set_option maxHeartbeats 1000000 in
theorem fframe_yes {w : World} {a : Option Addr} {L : List Int} (h : RefAt w a L) (k : Nat) (hk : 64 * k + 64 ≤ L.length) :
    Calls Try.prog 23 #[.agg #[.slice a L.length L.length], .int .i64 k] w (RowPost ((L.drop (64 * k)).take 64) w) := by
  have hl := h.2.2
  have C := Lib.hid (fun o => fcopy_at (h.keep0 ((Keep.refl [] w).alloc o)))
  have hk' : ¬ ((L.length : Int) / 64 ≤ (k : Int)) := by omega
  have hK : ∀ o, Keep [] w (w.alloc o) := fun o => (Keep.refl _ _).alloc o
  have HK := Lib.hid hK
  have hln : ((L.drop (64 * k)).take 64).length = 64 := by rw [List.length_take, List.length_drop]; omega
  have HN := Lib.hid hln
  have hfd : ∀ (a : Option Addr) (n c : Nat) (w : World), (Instr.field 55 (.agg #[.slice a n c]) 0).run Try.prog w = .ok (.slice a n c) w := fun _ _ _ _ => by kernel_rfl
  clear h hK hln
  go_enter Try.func23, Try.ntmps23
  go_wp2_with fail
  refine (C.out _).mono ?_
  rintro e y ⟨v, rfl, hO, hKy⟩
  obtain ⟨a', c', rfl, hR⟩ := hO.shape
  obtain ⟨b, off, rfl⟩ := hR.some_of (by omega)
  obtain ⟨a2, hsl, hR2⟩ := run_slice_row (P := Try.prog) Try.underlying22 size_u8 hR (64 * k) (64 * k + 64) (by omega) (by omega)
  rw [show 64 * k + 64 - 64 * k = 64 by omega] at hsl hR2
  have hsl' : ∀ W : World, (Instr.slice 22 (.slice (some ⟨b, off, none⟩) L.length c') (some (.int .i64 ((k : Int) * 64))) (some (.int .i64 ((k : Int) * 64 + 64))) none).run Try.prog W = .ok (.slice a2 64 (c' - 64 * k)) W := fun W => by
    have := hsl W
    rw [show (((64 * k : Nat)) : Int) = (k : Int) * 64 by omega, show (((64 * k + 64 : Nat)) : Int) = (k : Int) * 64 + 64 by omega] at this
    exact this
  have HF : Hid (RowPost ((L.drop (64 * k)).take 64) w (.returned (.slice a2 64 (c' - 64 * k))) y) := Lib.hid ⟨a2, _, by rw [HN.out], hR2, (HK.out _).trans hKy⟩
  clear hO hKy hR hsl hR2
  go_wp2_with fail
  go_ret
  exact HF.out
end Go.Proofs.Ytgeakpeaohggoaa
