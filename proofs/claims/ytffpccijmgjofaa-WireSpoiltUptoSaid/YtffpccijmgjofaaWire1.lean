/- Numbers as bytes: Put, Number, works. -/
import Derived.Test.YtffpccijmgjofaaRows
import Derived.Test.YtffpccijmgjofaaBytes
import Derived.WalkMore
import Derived.ScopeJumps
namespace Go.Proofs.Ytffpccijmgjofaa
open Go.RowKit Go.Mum

theorem info_u8 : (Try.prog.info? 5).map (fun i => (i.zero, i.size, i.bytes)) = some (some (.int .u8 0), 1, 1) := by kernel_rfl

/-- A number's bytes. -/
def number (n : Nat) : List Int := if n < 128 then [(n : Int)] else ((n % 128 + 128 : Nat) : Int) :: number (n / 128)
termination_by n

theorem number_small {n : Nat} (h : n < 128) : number n = [(n : Int)] := by rw [number, if_pos h]
theorem number_big {n : Nat} (h : ¬ n < 128) : number n = ((n % 128 + 128 : Nat) : Int) :: number (n / 128) := by rw [number, if_neg h]

theorem number_bytes (n : Nat) : IsBytes (number n) := by
  induction n using Nat.strongRecOn with
  | _ n ih =>
    by_cases h : n < 128
    · rw [number_small h]
      intro x hx
      simp at hx
      omega
    · rw [number_big h]
      intro x hx
      rcases List.mem_cons.1 hx with rfl | hx
      · omega
      · exact ih _ (by omega) x hx

theorem number_len {k : Nat} : ∀ {n : Nat}, n < 128 ^ (k + 1) → (number n).length ≤ k + 1 := by
  induction k with
  | zero => intro n h; rw [number_small (by simpa using h)]; simp
  | succ k ih =>
    intro n h
    by_cases hs : n < 128
    · rw [number_small hs]; simp
    · rw [number_big hs, List.length_cons]
      have : n / 128 < 128 ^ (k + 1) := by
        rw [Nat.div_lt_iff_lt_mul (by omega)]
        rw [Nat.pow_succ] at h
        exact h
      have := ih this
      omega

theorem number_len10 {n : Nat} (h : n < 2 ^ 64) : (number n).length ≤ 10 := number_len (k := 9) (by omega)

theorem empty_u8 (w : World) : (Instr.buildSlice 22 0 #[]).run Try.prog w = .ok (.slice (some ⟨w.heap.size, 0, none⟩) 0 0) (w.alloc (.cells #[] 5)) := by
  obtain ⟨i0, hi, hz0, hz1, hz2⟩ := info_parts info_u8
  simp [Instr.buildSlice, run_underlying Try.underlying22, sizeOf, typeInfo, hi, Instr.fill, newRow, show Array.range 0 = #[] from rfl]

theorem or128_all : ∀ n : Fin 256, bits BinOp.or IntKind.u8 (n.val : Int) 128 = ((n.val % 128 + 128 : Nat) : Int) := by decide +kernel
theorem or128 (m : Nat) : bits BinOp.or IntKind.u8 ((m : Int) % 256) 128 = ((m % 128 + 128 : Nat) : Int) := by
  have h := or128_all ⟨m % 256, Nat.mod_lt _ (by decide)⟩
  simp only at h
  rw [show ((m : Int) % 256) = ((m % 256 : Nat) : Int) by omega, h]
  omega

theorem row_one (w : World) (z : Int) (h0 : 0 ≤ z ∧ z < 256) : Row (w.alloc (.cells #[.int .u8 z] 5)) (some ⟨w.heap.size, 0, none⟩) 1 [z] :=
  ⟨by intro x hx; simp at hx; omega, ⟨Nat.le_refl _, by unfold maxLen; omega⟩, .inr <| .inr ⟨_, _, rfl, fun i hi => by
    obtain rfl : i = 0 := by simpa using hi
    exact cell_of (heap_alloc_same w _) 0 rfl⟩⟩

/-- What Put leaves. -/
def PutPost (L : List Int) (w : World) (e : Ending) (w' : World) : Prop := ∃ v, e = .returned v ∧ Own w' w.heap.size 5 v L ∧ Keep [] w w'

theorem own_grown {w x y : World} {v : Value} (h : Keep [] w x) (hg : x.grownBy y v.ownBlock) {L : List Int} (ho : Own x w.heap.size 5 v L) : Keep [] w y :=
  h.grown hg fun k hk => .inr (ho.block k hk).1

set_option maxRecDepth 100000 in
set_option maxHeartbeats 1000000 in
theorem put_at {a : Option Addr} {c : Nat} {L : List Int} (n : Nat) (hn : n < 2 ^ 64) {w : World} (h : Row w a c L) (hl : L.length ≤ 4294967296) :
    Calls Try.prog 11 #[.slice a L.length c, .int .u64 n] w (PutPost (L ++ number n) w) := by
  have H := Lib.hid h
  clear h
  have he := empty_u8
  go_enter Try.func11, Try.ntmps11
  go_wp2_with fail
  go_step3
  go_wp2_with (at_builtin; go_loud (refine wpList_append_row rfl _ _ 22 rfl w.heap.size 5 Try.underlying22 info_u8 (.slice (some ⟨w.heap.size, 0, none⟩) 0 0) [] L rfl (Own.empty (heap_alloc_at _ rfl) (Nat.le_refl _)) a _ c rfl rfl (H.out.keep0 ((Keep.refl [] w).alloc _)) (by simp; omega) (by simp) ?_); intro v1 w1 ho hg)
  have hK1 : Keep [] w w1 := ((Keep.refl [] w).alloc _).grown hg (by simp [Value.ownBlock])
  have HO : Hid (Own w1 w.heap.size 5 v1 L ∧ Keep [] w w1) := Lib.hid ⟨by simpa using ho, hK1⟩
  clear ho hg hK1
  go_step3
  go_wp2
  go_loopw [1, 5] (fun i o wr => ∃ (m : Nat) (P : List Int), i = .int .u64 m ∧ m ≤ n ∧ P ++ number m = L ++ number n ∧ Own wr w.heap.size 5 o P ∧ Keep [] w wr ∧ P.length + (number m).length = L.length + (number n).length) (fun i _ _ => (intOf i).toNat)
  case atStart => exact ⟨n, L, rfl, Nat.le_refl _, rfl, HO.out.1, HO.out.2, rfl⟩
  case round =>
    clear HO
    obtain ⟨m, P, rfl, hmn, hpn, hO, hK, hlen⟩ := hrel
    have hsz := hK.size
    have hpl : P.length + (number m).length ≤ 4294967306 := by have := number_len10 hn; omega
    have HO := Lib.hid (And.intro hO (And.intro hK (And.intro hpn hlen)))
    clear hO hK hpn hlen
    by_cases hm : m < 128
    · have HN := Lib.hid (number_small hm)
      go_wp2_with (at_builtin; refine wpList_append_row rfl _ _ 22 rfl w.heap.size 5 Try.underlying22 info_u8 u5 P [(m : Int)] rfl (HO.out.1.keep0 ((Keep.refl [] wr).alloc _)) (some ⟨wr.heap.size, 0, none⟩) _ 1 rfl rfl (row_one wr _ (by omega)) (by simp; omega) (by simp; omega) ?_; intro v2 w2 ho hg; have HG := Lib.hid (And.intro ho hg); clear ho hg)
      obtain ⟨ho, hg⟩ := HG.out
      have hK2 : Keep [] w w2 := own_grown (HO.out.2.1.alloc _) hg (HO.out.1.keep0 ((Keep.refl [] wr).alloc _))
      have HF : Hid (PutPost (L ++ number n) w (.returned v2) w2) := Lib.hid ⟨v2, rfl, by rw [← HO.out.2.2.1, HN.out]; exact ho, hK2⟩
      clear ho hg HG hK2
      rw [Exit.noGoto_ret]
      go_ret
      exact HF.out
    · have HN := Lib.hid (number_big hm)
      have hor := or128 m
      rw [number_big hm, List.length_cons] at hpl
      go_wp2_with (at_builtin; refine wpList_append_row rfl _ _ 22 rfl w.heap.size 5 Try.underlying22 info_u8 u5 P [((m % 128 + 128 : Nat) : Int)] rfl (HO.out.1.keep0 ((Keep.refl [] wr).alloc _)) (some ⟨wr.heap.size, 0, none⟩) _ 1 rfl rfl (row_one wr _ (by omega)) (by simp; omega) (by simp; omega) ?_; intro v2 w2 ho hg; have HG := Lib.hid (And.intro ho hg); clear ho hg)
      obtain ⟨ho, hg⟩ := HG.out
      have hK2 : Keep [] w w2 := own_grown (HO.out.2.1.alloc _) hg (HO.out.1.keep0 ((Keep.refl [] wr).alloc _))
      clear HG hg
      go_roundw
      case rel => exact ⟨m / 128, P ++ [((m % 128 + 128 : Nat) : Int)], by go_num, by omega, by rw [← HO.out.2.2.1, HN.out]; simp, ho, hK2, by have := HO.out.2.2.2; rw [HN.out] at this; simp at this ⊢; omega⟩
      case measure => simp [intOf]; omega

set_option maxRecDepth 100000 in
set_option maxHeartbeats 1000000 in
theorem rnumber_at (n : Nat) (hn : n < 2 ^ 64) (w : World) :
    Calls Try.prog 12 #[.int .u64 n] w (PutPost (number n) w) := by
  go_enter Try.func12, Try.ntmps12
  go_wp2
  go_loopw [0, 3] (fun i o wr => ∃ (m : Nat) (P : List Int), i = .int .u64 m ∧ m ≤ n ∧ P ++ number m = number n ∧ Own wr w.heap.size 5 o P ∧ Keep [] w wr ∧ P.length + (number m).length = (number n).length) (fun i _ _ => (intOf i).toNat)
  case atStart => exact ⟨n, [], rfl, Nat.le_refl _, rfl, Own.nil _ _ _, Keep.refl _ _, by simp⟩
  case round =>
    obtain ⟨m, P, rfl, hmn, hpn, hO, hK, hlen⟩ := hrel
    have hsz := hK.size
    have hpl : P.length + (number m).length ≤ 4294967306 := by have := number_len10 hn; omega
    have HO := Lib.hid (And.intro hO (And.intro hK (And.intro hpn hlen)))
    clear hO hK hpn hlen
    by_cases hm : m < 128
    · have HN := Lib.hid (number_small hm)
      go_wp2_with (at_builtin; refine wpList_append_row rfl _ _ 22 rfl w.heap.size 5 Try.underlying22 info_u8 u3 P [(m : Int)] rfl (HO.out.1.keep0 ((Keep.refl [] wr).alloc _)) (some ⟨wr.heap.size, 0, none⟩) _ 1 rfl rfl (row_one wr _ (by omega)) (by simp; omega) (by simp; omega) ?_; intro v2 w2 ho hg; have HG := Lib.hid (And.intro ho hg); clear ho hg)
      obtain ⟨ho, hg⟩ := HG.out
      have hK2 : Keep [] w w2 := own_grown (HO.out.2.1.alloc _) hg (HO.out.1.keep0 ((Keep.refl [] wr).alloc _))
      have HF : Hid (PutPost (number n) w (.returned v2) w2) := Lib.hid ⟨v2, rfl, by rw [← HO.out.2.2.1, HN.out]; exact ho, hK2⟩
      clear ho hg HG hK2
      go_ret
      exact HF.out
    · have HN := Lib.hid (number_big hm)
      rw [number_big hm, List.length_cons] at hpl
      go_wp2_with (at_builtin; refine wpList_append_row rfl _ _ 22 rfl w.heap.size 5 Try.underlying22 info_u8 u3 P [((m % 128 + 128 : Nat) : Int)] rfl (HO.out.1.keep0 ((Keep.refl [] wr).alloc _)) (some ⟨wr.heap.size, 0, none⟩) _ 1 rfl rfl (row_one wr _ (by omega)) (by simp; omega) (by simp; omega) ?_; intro v2 w2 ho hg; have HG := Lib.hid (And.intro ho hg); clear ho hg)
      obtain ⟨ho, hg⟩ := HG.out
      have hK2 : Keep [] w w2 := own_grown (HO.out.2.1.alloc _) hg (HO.out.1.keep0 ((Keep.refl [] wr).alloc _))
      clear HG hg
      go_roundw
      case rel => exact ⟨m / 128, P ++ [((m % 128 + 128 : Nat) : Int)], by go_num, by omega, by rw [← HO.out.2.2.1, HN.out]; simp, ho, hK2, by have := HO.out.2.2.2; rw [HN.out] at this; simp at this ⊢; omega⟩
      case measure => simp [intOf]; omega

def True1 (w : World) (e : Ending) (w' : World) : Prop := e = .returned (.bool true) ∧ Keep [] w w'

theorem number_300 : number 300 = [172, 2] := by
  rw [number_big (by decide), number_small (by decide)]
  rfl

set_option maxRecDepth 100000 in
theorem works_at (w : World) : Calls Try.prog 13 #[] w (True1 w) := by
  go_enter Try.func13, Try.ntmps13
  go_wp2_with fail
  refine (put_at 300 (by decide) (Row.nil w) (by simp)).mono ?_
  rintro e w1 ⟨v, rfl, hO, hK⟩
  rw [List.nil_append, number_300] at hO
  obtain ⟨a, c, hv, hR⟩ := hO.shape
  obtain rfl : v = .slice a 2 c := hv
  have hcv := run_string (P := Try.prog) (dst := 9) Try.underlying22 Try.underlying5 hR 2 rfl Try.underlying9
  have HK := Lib.hid hK
  clear hO hK hR
  have hst : ((strOfNums [172, 2]).toList == [172, 2]) = true := by decide +kernel
  go_wp2
  go_ret
  exact ⟨rfl, HK.out⟩
end Go.Proofs.Ytffpccijmgjofaa
