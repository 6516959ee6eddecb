/- The document's marks: New and List; two rows held against each other. -/
import Derived.Test.YtaanefkddmakeaaMarks2
namespace Go.Proofs.Ytaanefkddmakeaa
open Go.RowKit Go.Mum

def RNew (n : Nat) (w : World) (e : Ending) (w' : World) : Prop :=
  ∃ c t, w.heap.size ≤ c ∧ w.heap.size ≤ t ∧ e = .returned (rval c t n) ∧ RMarks w' c t n [] [] ∧ Keep [] w w'

set_option maxHeartbeats 1000000 in
theorem rnew_at (n : Nat) (hn : n ≤ 64) (w : World) : Calls Try.prog 24 #[.int .i64 n] w (RNew n w) := by
  have hmk := fun w => run_make_row' (P := Try.prog) 38 4 (.bool false) 1 Try.underlying38 (by kernel_rfl) rfl .i64 .i64 n (by omega) (by omega) w
  go_enter Try.func24, Try.ntmps24
  go_wp2_with fail
  go_region
  all_goals go_wp2
  · refine bodyPost_ret (v := rval (w.heap.size + 1) (w.heap.size + 1 + 1) n) (by simp [results, rval, Try.results24, go_sem]) rfl ⟨_, _, by omega, by omega, rfl, ⟨?_, ?_, by omega, hn⟩, ((((Keep.refl _ _).alloc _).alloc _).alloc _).drew⟩
    · exact (((arrAt_new _ _ _ _ (by simp)).keep ((Keep.refl [] _).alloc _) (by simp)).keep ((Keep.refl [] _).drew) (by simp)).ext (by simp)
    · exact ((arrAt_new _ _ _ _ (by simp)).keep ((Keep.refl [] _).drew) (by simp)).ext (by simp)
  · refine bodyPost_ret (v := rval (w.heap.size + 1 + 1) (w.heap.size + 1) n) (by simp [results, rval, Try.results24, go_sem]) rfl ⟨_, _, by omega, by omega, rfl, ⟨?_, ?_, by omega, hn⟩, ((((Keep.refl _ _).alloc _).alloc _).alloc _).drew⟩
    · exact ((arrAt_new _ _ _ _ (by simp)).keep ((Keep.refl [] _).drew) (by simp)).ext (by simp)
    · exact (((arrAt_new _ _ _ _ (by simp)).keep ((Keep.refl [] _).alloc _) (by simp)).keep ((Keep.refl [] _).drew) (by simp)).ext (by simp)

set_option maxHeartbeats 2000000 in
theorem rlist_at {w : World} {c t n : Nat} {s1 s2 : List Int} (h : RMarks w c t n s1 s2) (k : Int) :
    Calls Try.prog 28 #[rval c t n, .int .i64 k] w (ListPost (kept n (sel k s1 s2)) w) := by
  have hb := h.bound
  obtain ⟨i0, hi, hz0, hz1, hz2⟩ := info_parts info_int
  have C := Lib.hid (fun W => rof k c t n W)
  have hrow : (sel k s1 s2 = [] ∧ rowOf k c t n = .slice none 0 0) ∨ ∃ g, rowOf k c t n = .slice (some ⟨g, 0, none⟩) n n ∧ ArrAt w g 4 n fun j => .bool (decide ((j : Int) ∈ sel k s1 s2)) := by
    unfold sel rowOf
    split
    · exact .inr ⟨c, rfl, h.one⟩
    · split
      · exact .inr ⟨t, rfl, h.two⟩
      · exact .inl ⟨rfl, rfl⟩
  clear h
  rcases hrow with ⟨he, hr⟩ | ⟨g, hr, hA⟩
  · rw [hr] at C
    rw [he, kept_nil]
    clear he hr
    go_enter Try.func28, Try.ntmps28
    unfold rval at C ⊢
    go_wp2_with fail
    refine (C.out _).mono ?_
    rintro e w1 ⟨rfl, hK⟩
    have HF : Hid (ListPost [] w (.returned (.slice none 0 0)) w1) := Lib.hid ⟨_, rfl, World.ownsRow_nil _ _ _ _, (((Keep.refl [] w).alloc _).trans hK).below (Nat.le_refl _) (by simp)⟩
    clear hK
    go_wp2_with fail
    go_loop [5, 7] (fun l i => l = .slice none 0 0 ∧ i = .int .i64 0) (fun _ _ => 0)
    case atStart => exact ⟨rfl, rfl⟩
    case round =>
      obtain ⟨rfl, rfl⟩ := hrel
      go_wp2
      go_ret
      exact HF.out
  · generalize sel k s1 s2 = s at hA
    rw [hr] at C
    clear hr
    have HA := Lib.hid hA
    clear hA
    go_enter Try.func28, Try.ntmps28
    unfold rval at C ⊢
    go_wp2_with fail
    refine (C.out _).mono ?_
    rintro e w1 ⟨rfl, hK⟩
    have hK1 : Keep [] w w1 := ((Keep.refl [] w).alloc _).trans hK
    have HA1 := Lib.hid (And.intro (HA.out.keep hK1 (by simp)) (And.intro hK1 HA.out.lt))
    clear hK hK1 HA
    go_wp2_with fail
    go_loopw [5, 7] (fun l i wr => ∃ j : Nat, j ≤ n ∧ i = .int .i64 j ∧ wr.ownsRow w.heap.size 3 1 l (kept j s).length ((kept j s).map (Value.int .i64)) ∧ Below w.heap.size w wr) (fun _ i _ => n - (intOf i).toNat)
    case atStart => exact ⟨0, by omega, rfl, World.ownsRow_nil _ _ _ _, HA1.out.2.1.below (Nat.le_refl _) (by simp)⟩
    case round =>
      obtain ⟨j, hj, rfl, hown, hB⟩ := hrel
      have HO := Lib.hid (And.intro hown hB)
      have hkl := kept_le j s
      by_cases hjn : j < n
      · have hc : wr.cell? ⟨g, j, none⟩ = some (.bool (decide ((j : Int) ∈ s))) := by
          rw [← HA1.out.1.cell hjn]
          have h1 := (hB.block g HA1.out.2.2)
          have h2 := (HA1.out.2.1.block g HA1.out.2.2 (by simp))
          rw [World.cell?_of_block (w := w) (by simpa using h1), World.cell?_of_block (w := w) (w' := w1) (by simpa using h2)]
        by_cases hin : (j : Int) ∈ s
        · rw [decide_eq_true hin] at hc
          have HS := Lib.hid (kept_succ_in hin)
          clear hin hB
          go_wp2_with (at_builtin; refine wpList_append_own _ rfl _ _ 43 rfl w.heap.size 3 i0 (.int .i64 0) 1 8 Try.underlying43 hi hz0 hz1 hz2 rfl (by decide) _ _ _ rfl (hown.alloc _) ⟨wr.heap.size, 0, none⟩ 1 1 [.int .i64 j] rfl rfl (cell_one_new _ _ _) (by simp [Value.oneCell']) (by unfold maxLen; omega) (by omega) (by have := HO.out.2.size; simp; omega) ?_; intro v' w2 hown' hgrow _; have HO2 := Lib.hid (And.intro hown' hgrow); clear hown' hgrow hown)
          go_roundw
          case rel =>
            refine ⟨j + 1, by omega, by go_num, ?_, ?_⟩
            · rw [HS.out]; simpa using HO2.out.1
            · have hsz := HO.out.2.size
              refine (HO.out.2.alloc hsz _).grown HO2.out.2 (by simp; omega) (fun q hq => ?_)
              exact (HO.out.1.lt q hq).1
          case measure => simp [intOf]; omega
        · rw [decide_eq_false hin] at hc
          have HS := Lib.hid (kept_succ_out hin)
          clear hin hB hown
          go_wp2
          go_roundw
          case rel => exact ⟨j + 1, by omega, by go_num, by rw [HS.out]; exact HO.out.1, HO.out.2⟩
          case measure => simp [intOf]; omega
      · obtain rfl : j = n := by omega
        clear hB hown
        go_wp2
        go_ret
        exact ⟨_, rfl, HO.out.1, HO.out.2⟩

/-- The cells of a list of numbers. -/
def Reads (w : World) (a : Option Addr) (l : List Int) : Prop := l = [] ∨ ∃ g, a = some ⟨g, 0, none⟩ ∧ ∀ j (hj : j < l.length), w.cell? ⟨g, j, none⟩ = some (.int .i64 l[j])

theorem ListAt.reads {B : Nat} {w : World} {a : Option Addr} {l : List Int} (h : ListAt B w a l) : Reads w a l := by
  rcases h with h | ⟨g, h1, _, _, h2⟩
  · exact .inl h
  · exact .inr ⟨g, h1, h2⟩

theorem Reads.keep {w x : World} {a : Option Addr} {l : List Int} (h : Reads w a l) (hk : Keep [] w x) : Reads x a l := by
  rcases h with h | ⟨g, h1, h2⟩
  · exact .inl h
  · exact .inr ⟨g, h1, fun j hj => hk.cell (h2 j hj) (by simp)⟩

set_option maxHeartbeats 1000000 in
theorem same_eq (l : List Int) (a b : Option Addr) (ca cb : Nat) (w : World) (ha : Reads w a l) (hb : Reads w b l) (hl : l.length ≤ 1000) :
    Calls Try.prog 27 #[.slice a l.length ca, .slice b l.length cb] w fun e w' => e = .returned (.bool true) ∧ ∃ d, w' = w.drewN d := by
  go_enter Try.func27, Try.ntmps27
  go_wp2_with fail
  go_loopw [5] (fun i wr => ∃ j d : Nat, j ≤ l.length ∧ i = .int .i64 j ∧ wr = w.drewN d) (fun i _ => l.length - (intOf i).toNat)
  case atStart => exact ⟨0, 0, by omega, rfl, rfl⟩
  case round =>
    obtain ⟨j, d, hj, rfl, rfl⟩ := hrel
    by_cases hjl : j < l.length
    · obtain ⟨g, rfl, hg⟩ : ∃ g, a = some ⟨g, 0, none⟩ ∧ w.cell? ⟨g, j, none⟩ = some (.int .i64 l[j]) := by
        rcases ha with h | ⟨g, h1, h2⟩
        · subst h; simp at hjl
        · exact ⟨g, h1, h2 j hjl⟩
      obtain ⟨g', rfl, hg'⟩ : ∃ g, b = some ⟨g, 0, none⟩ ∧ w.cell? ⟨g, j, none⟩ = some (.int .i64 l[j]) := by
        rcases hb with h | ⟨g, h1, h2⟩
        · subst h; simp at hjl
        · exact ⟨g, h1, h2 j hjl⟩
      generalize l[j] = z at hg hg'
      clear ha hb
      have hi1 : (j : Int) < (l.length : Int) := by omega
      go_wp2_with fail
      go_quiet (fail)
      go_wp2
      go_roundw
      case rel => exact ⟨j + 1, _, by omega, by go_num, rfl⟩
      case measure => simp [intOf]; omega
    · clear ha hb
      obtain rfl : j = l.length := by omega
      go_wp2
      go_ret
      exact ⟨rfl, _, rfl⟩
end Go.Proofs.Ytaanefkddmakeaa
