/- The sum: moved, Sum, and the document's. -/
import Derived.Test.YtffpccijmgjofaaWire1
import Derived.Laws.BitsLemmas
import Derived.Lib.EndianBits
namespace Go.Proofs.Ytffpccijmgjofaa
open Go.RowKit Go.Mum

/-- The register, moved by one place. -/
def step (r : Nat) : Nat := if r % 2 = 1 then (r / 2) ^^^ 3988292384 else r / 2
def stepN : Nat → Nat → Nat
  | 0, r => r
  | n + 1, r => stepN n (step r)
/-- The register behind bytes. -/
def crc (r : Nat) (L : List Int) : Nat := L.foldl (fun r x => stepN 8 (r ^^^ x.toNat)) r
def sumOf (L : List Int) : Nat := 4294967295 - crc 4294967295 L

theorem step_lt {r : Nat} (h : r < 4294967296) : step r < 4294967296 := by
  unfold step
  split
  · exact Nat.xor_lt_two_pow (n := 32) (by omega) (by decide)
  · omega
theorem stepN_lt {r : Nat} (h : r < 4294967296) : ∀ n, stepN n r < 4294967296 := by
  intro n
  induction n generalizing r with
  | zero => exact h
  | succ n ih => exact ih (step_lt h)
theorem xor_lt {a b : Nat} (ha : a < 4294967296) (hb : b < 4294967296) : a ^^^ b < 4294967296 := Nat.xor_lt_two_pow (n := 32) ha hb
theorem crc_lt {r : Nat} {L : List Int} (h : r < 4294967296) (hL : IsBytes L) : crc r L < 4294967296 := by
  induction L generalizing r with
  | nil => exact h
  | cons x l ih =>
    have hx := hL x (by simp)
    exact ih (stepN_lt (xor_lt h (by omega)) 8) (fun y hy => hL y (by simp [hy]))

theorem bits_xor_u32_nat (a b : Nat) (ha : a < 4294967296) (hb : b < 4294967296) : bits .xor .u32 (a : Int) (b : Int) = ((a ^^^ b : Nat) : Int) := by
  have hx : a ^^^ b < 2 ^ 32 := Nat.xor_lt_two_pow (by omega) (by omega)
  have h1 : (BitVec.ofInt 32 (a : Int)).toNat = a := by
    rw [BitVec.ofInt_natCast, BitVec.toNat_ofNat]; exact Nat.mod_eq_of_lt (by omega)
  have h2 : (BitVec.ofInt 32 (b : Int)).toNat = b := by
    rw [BitVec.ofInt_natCast, BitVec.toNat_ofNat]; exact Nat.mod_eq_of_lt (by omega)
  show IntKind.u32.wrap ((BitVec.ofInt 32 (a : Int) ^^^ BitVec.ofInt 32 (b : Int)).toNat : Int) = _
  rw [BitVec.toNat_xor, h1, h2, IntKind.wrap_u32]
  omega

set_option maxRecDepth 100000 in
set_option maxHeartbeats 1000000 in
theorem moved_at (r x : Nat) (hr : r < 4294967296) (hx : x < 256) (w : World) :
    Calls Try.prog 24 #[.int .u32 r, .int .u8 x] w fun e w' => e = .returned (.int .u32 ((stepN 8 (r ^^^ x) : Nat) : Int)) ∧ w = w' := by
  have h0 := bits_xor_u32_nat r x hr (by omega)
  have hlt : r ^^^ x < 4294967296 := xor_lt hr (by omega)
  go_enter Try.func24, Try.ntmps24
  go_wp2
  go_loop [0, 10] (fun q i => ∃ j s : Nat, i = .int .i64 j ∧ q = .int .u32 s ∧ j ≤ 8 ∧ s < 4294967296 ∧ stepN (8 - j) s = stepN 8 (r ^^^ x)) (fun _ i => 8 - (intOf i).toNat)
  case atStart => exact ⟨0, r ^^^ x, rfl, rfl, by omega, hlt, rfl⟩
  case round =>
    obtain ⟨j, s, rfl, rfl, hj, hs, he⟩ := hrel
    by_cases hj8 : j < 8
    · obtain ⟨k, hk⟩ : ∃ k, 8 - j = k + 1 := ⟨7 - j, by omega⟩
      rw [hk] at he
      have HE := Lib.hid he
      clear he
      have hA : bits BinOp.and IntKind.u32 (s : Int) 1 = (s : Int) % 2 := by
        have := bits_mask .u32 32 (by decide) wraps_u32 1 (by decide) (s : Int) (by omega) (by show (s : Int) < 4294967296; omega)
        simpa using this
      by_cases ho : s % 2 = 1
      · have h1 := bits_xor_u32_nat (s / 2) 3988292384 (by omega) (by decide)
        have h1' : bits BinOp.xor IntKind.u32 ((s : Int) / 2) 3988292384 = (((s / 2) ^^^ 3988292384 : Nat) : Int) := by simpa using h1
        clear h1
        have ho' : (s : Int) % 2 = 1 := by omega
        go_wp2
        go_round
        case rel => exact ⟨j + 1, (s / 2) ^^^ 3988292384, by go_num, rfl, by omega, xor_lt (by omega) (by decide), by rw [show 8 - (j + 1) = k by omega, ← HE.out, stepN, step, if_pos ho]⟩
        case measure => simp [intOf]; omega
      · have ho' : ¬ ((s : Int) % 2 = 1) := by omega
        go_wp2
        go_round
        case rel => exact ⟨j + 1, s / 2, by go_num, by go_num, by omega, by omega, by rw [show 8 - (j + 1) = k by omega, ← HE.out, stepN, step, if_neg ho]⟩
        case measure => simp [intOf]; omega
    · obtain rfl : j = 8 := by omega
      have HE := Lib.hid he
      clear he
      go_wp2
      go_ret
      exact ⟨by rw [← HE.out]; rfl, rfl⟩

theorem not_u32 (r : Nat) (h : r < 4294967296) : bits BinOp.xor IntKind.u32 IntKind.u32.max (r : Int) = ((4294967295 - r : Nat) : Int) := by
  rw [show IntKind.u32.max = ((4294967295 : Nat) : Int) by rfl, bits_xor_u32_nat _ _ (by decide) h]
  congr 1
  have h1 : (BitVec.allOnes 32 ^^^ BitVec.ofNat 32 r).toNat = 4294967295 - r := by
    rw [BitVec.allOnes_xor, BitVec.toNat_not, BitVec.toNat_ofNat, Nat.mod_eq_of_lt (by omega)]
  rw [← h1, BitVec.toNat_xor, BitVec.toNat_allOnes, BitVec.toNat_ofNat, Nat.mod_eq_of_lt (by omega)]

abbrev Piece := Option Addr × Nat × List Int
def joined (ps : List Piece) : List Int := ps.flatMap (·.2.2)

theorem crc_append (r : Nat) (a b : List Int) : crc r (a ++ b) = crc (crc r a) b := by simp [crc]
theorem take_succ' {α : Type} {L : List α} {j : Nat} (h : j < L.length) : L.take (j + 1) = L.take j ++ [L[j]] := by rw [List.take_add_one, List.getElem?_eq_getElem h]; rfl
theorem isBytes_take {L : List Int} (h : IsBytes L) (j : Nat) : IsBytes (L.take j) := fun x hx => h x (List.mem_of_mem_take hx)

/-- A row of pieces. -/
structure Pieces (w : World) (a : Option Addr) (c : Nat) (ps : List Piece) : Prop where
  len : ps.length ≤ 4294967296
  rows : ∀ p ∈ ps, Row w p.1 p.2.1 p.2.2
  at' : ps = [] ∨ ∃ b off, a = some ⟨b, off, none⟩ ∧ ∀ i (h : i < ps.length), w.cell? ⟨b, off + i, none⟩ = some (.slice ps[i].1 ps[i].2.2.length ps[i].2.1)

set_option maxRecDepth 100000 in
set_option maxHeartbeats 1000000 in
theorem sum_at {a : Option Addr} {c : Nat} {ps : List Piece} {w : World} (h : Pieces w a c ps) :
    Calls Try.prog 16 #[.slice a ps.length c] w fun e w' => e = .returned (.int .u32 ((sumOf (joined ps) : Nat) : Int)) ∧ w = w' := by
  have hlen := h.len
  have H := Lib.hid h
  clear h
  go_enter Try.func16, Try.ntmps16
  go_wp2
  go_loop [3, 10] (fun q i => ∃ j : Nat, i = .int .i64 j ∧ q = .int .u32 ((crc 4294967295 (joined (ps.take j)) : Nat) : Int) ∧ j ≤ ps.length) (fun _ i => ps.length - (intOf i).toNat)
  case atStart => exact ⟨0, rfl, rfl, by omega⟩
  case round =>
    obtain ⟨j, rfl, rfl, hj⟩ := hrel
    have hbt : IsBytes (joined (ps.take j)) := by
      intro x hx
      obtain ⟨p, hp, hx⟩ := List.mem_flatMap.1 hx
      exact (H.out.rows p (List.mem_of_mem_take hp)).bytes x hx
    have hr0 := crc_lt (r := 4294967295) (by decide) hbt
    by_cases hlt : j < ps.length
    · obtain ⟨b, off, rfl, hc⟩ : ∃ b off, a = some ⟨b, off, none⟩ ∧ w.cell? ⟨b, off + j, none⟩ = some (.slice ps[j].1 ps[j].2.2.length ps[j].2.1) := by
        rcases H.out.at' with rfl | ⟨b, off, rfl, hc⟩
        · simp at hlt
        · exact ⟨b, off, rfl, hc j hlt⟩
      have hR := Lib.hid (H.out.rows ps[j] (List.getElem_mem hlt))
      have hN : Hid (crc (crc 4294967295 (joined (ps.take j))) ps[j].2.2 = crc 4294967295 (joined (ps.take (j + 1)))) := Lib.hid (by
        rw [take_succ' hlt, joined, joined, List.flatMap_append, crc_append]
        simp)
      generalize crc 4294967295 (joined (ps.take j)) = r at hr0 hN
      generalize ps[j] = pc at hc hR hN
      obtain ⟨pa, pcap, L⟩ := pc
      simp only at hc hR hN
      have hL : L.length ≤ 9223372036854775807 := by have := hR.out.cap; unfold maxLen at this; omega
      clear hbt
      go_wp2
      go_loop [3, 16] (fun q i => ∃ k : Nat, i = .int .i64 k ∧ q = .int .u32 ((crc r (L.take k) : Nat) : Int) ∧ k ≤ L.length) (fun _ i => L.length - (intOf i).toNat)
      case atStart => exact ⟨0, rfl, rfl, by omega⟩
      case round =>
        obtain ⟨k, rfl, rfl, hk⟩ := hrel
        have hs := crc_lt hr0 (isBytes_take hR.out.bytes k)
        by_cases hkl : k < L.length
        · obtain ⟨b2, off2, rfl, hc2⟩ : ∃ b off, pa = some ⟨b, off, none⟩ ∧ w.cell? ⟨b, off + k, none⟩ = some (.int .u8 (L.getD k 0)) := by
            rcases hR.out.at' with ⟨_, rfl, _⟩ | ⟨rfl, _⟩ | ⟨b, off, rfl, hcc⟩
            · simp at hkl
            · simp at hkl
            · exact ⟨b, off, rfl, hcc k hkl⟩
          have hx : 0 ≤ L.getD k 0 ∧ L.getD k 0 < 256 := hR.out.bytes _ (by simp [List.getD, List.getElem?_eq_getElem hkl])
          have hM : Hid (stepN 8 (crc r (L.take k) ^^^ (L.getD k 0).toNat) = crc r (L.take (k + 1))) := Lib.hid (by
            rw [take_succ' hkl, crc_append]
            simp [crc, List.getD, List.getElem?_eq_getElem hkl])
          generalize L.getD k 0 = x at hc2 hx hM
          obtain ⟨xn, rfl⟩ : ∃ n : Nat, x = n := ⟨x.toNat, by omega⟩
          generalize crc r (L.take k) = s at hs hM
          rw [Int.toNat_natCast] at hM
          go_wp2_with fail
          refine (moved_at s xn hs (by omega) w).mono ?_
          rintro e w' ⟨rfl, rfl⟩
          rw [hM.out]
          go_wp2_with fail
          go_round
          case rel => exact ⟨k + 1, by go_num, rfl, by omega⟩
          case measure => simp [intOf]; omega
        · obtain rfl : k = L.length := by omega
          have hT : crc r (L.take L.length) = crc 4294967295 (joined (ps.take (j + 1))) := by rw [List.take_length]; exact hN.out
          rw [hT]
          clear hT
          go_wp2
          go_round
          case rel => exact ⟨j + 1, by go_num, rfl, by omega⟩
          case measure => simp [intOf]; omega
    · obtain rfl : j = ps.length := by omega
      have hT : Hid (sumOf (joined ps) = 4294967295 - crc 4294967295 (joined (ps.take ps.length))) := Lib.hid (by rw [List.take_length]; rfl)
      generalize crc 4294967295 (joined (ps.take ps.length)) = r at hr0 hT
      have hn := not_u32 r hr0
      go_wp2
      go_ret
      exact ⟨by rw [hT.out]; rfl, rfl⟩

set_option maxRecDepth 100000 in
set_option maxHeartbeats 1000000 in
theorem rsum_at {a : Option Addr} {c : Nat} {L : List Int} {w : World} (h : Row w a c L) :
    Calls Try.prog 17 #[.slice a L.length c] w fun e w' => e = .returned (.int .u32 ((sumOf L : Nat) : Int)) ∧ w = w' := by
  have hm : L.length ≤ 9223372036854775807 := by have := h.cap; unfold maxLen at this; omega
  have H := Lib.hid h
  clear h
  go_enter Try.func17, Try.ntmps17
  go_wp2
  go_loop [3, 4] (fun q i => ∃ j : Nat, i = .int .i64 j ∧ q = .int .u32 ((crc 4294967295 (L.take j) : Nat) : Int) ∧ j ≤ L.length) (fun _ i => L.length - (intOf i).toNat)
  case atStart => exact ⟨0, rfl, rfl, by omega⟩
  case round =>
    obtain ⟨j, rfl, rfl, hj⟩ := hrel
    have hr0 := crc_lt (r := 4294967295) (by decide) (isBytes_take H.out.bytes j)
    by_cases hlt : j < L.length
    · obtain ⟨b, off, rfl, hc⟩ : ∃ b off, a = some ⟨b, off, none⟩ ∧ w.cell? ⟨b, off + j, none⟩ = some (.int .u8 (L.getD j 0)) := by
        rcases H.out.at' with ⟨_, rfl, _⟩ | ⟨rfl, _⟩ | ⟨b, off, rfl, hc⟩
        · simp at hlt
        · simp at hlt
        · exact ⟨b, off, rfl, hc j hlt⟩
      have hx : 0 ≤ L.getD j 0 ∧ L.getD j 0 < 256 := H.out.bytes _ (by simp [List.getD, List.getElem?_eq_getElem hlt])
      have hM : Hid (stepN 8 (crc 4294967295 (L.take j) ^^^ (L.getD j 0).toNat) = crc 4294967295 (L.take (j + 1))) := Lib.hid (by
        rw [take_succ' hlt, crc_append]
        simp [crc, List.getD, List.getElem?_eq_getElem hlt])
      generalize L.getD j 0 = x at hc hx hM
      obtain ⟨xn, rfl⟩ : ∃ n : Nat, x = n := ⟨x.toNat, by omega⟩
      generalize crc 4294967295 (L.take j) = r at hr0 hM
      rw [Int.toNat_natCast] at hM
      have h0 := bits_xor_u32_nat r xn hr0 (by omega)
      have hlt2 : r ^^^ xn < 4294967296 := xor_lt hr0 (by omega)
      go_wp2
      go_loop [3, 5] (fun q i => ∃ k s : Nat, i = .int .i64 k ∧ q = .int .u32 s ∧ k ≤ 8 ∧ s < 4294967296 ∧ stepN (8 - k) s = stepN 8 (r ^^^ xn)) (fun _ i => 8 - (intOf i).toNat)
      case atStart => exact ⟨0, r ^^^ xn, rfl, rfl, by omega, hlt2, rfl⟩
      case round =>
        obtain ⟨k, s, rfl, rfl, hk, hs, he⟩ := hrel
        clear h0
        by_cases hk8 : k < 8
        · obtain ⟨d, hd⟩ : ∃ d, 8 - k = d + 1 := ⟨7 - k, by omega⟩
          rw [hd] at he
          have HE := Lib.hid he
          clear he
          by_cases ho : s % 2 = 1
          · have h1 := bits_xor_u32_nat (s / 2) 3988292384 (by omega) (by decide)
            have h1' : bits BinOp.xor IntKind.u32 ((s : Int) / 2) 3988292384 = (((s / 2) ^^^ 3988292384 : Nat) : Int) := by simpa using h1
            clear h1
            have ho' : (s : Int) % 2 = 1 := by omega
            go_wp2
            go_round
            case rel => exact ⟨k + 1, (s / 2) ^^^ 3988292384, by go_num, rfl, by omega, xor_lt (by omega) (by decide), by rw [show 8 - (k + 1) = d by omega, ← HE.out, stepN, step, if_pos ho]⟩
            case measure => simp [intOf]; omega
          · have ho' : ¬ ((s : Int) % 2 = 1) := by omega
            go_wp2
            go_round
            case rel => exact ⟨k + 1, s / 2, by go_num, by go_num, by omega, by omega, by rw [show 8 - (k + 1) = d by omega, ← HE.out, stepN, step, if_neg ho]⟩
            case measure => simp [intOf]; omega
        · obtain rfl : k = 8 := by omega
          have he2 : s = crc 4294967295 (L.take (j + 1)) := by rw [← hM.out, ← he]; rfl
          have HE := Lib.hid he2
          clear he he2
          go_wp2
          go_round
          case rel => exact ⟨j + 1, by go_num, by rw [HE.out], by omega⟩
          case measure => simp [intOf]; omega
    · obtain rfl : j = L.length := by omega
      have hT : Hid (sumOf L = 4294967295 - crc 4294967295 (L.take L.length)) := Lib.hid (by rw [List.take_length]; rfl)
      generalize crc 4294967295 (L.take L.length) = r at hr0 hT
      have hw : IntKind.u32.wrap (4294967295 - (r : Int)) = ((4294967295 - r : Nat) : Int) := by rw [IntKind.wrap_u32]; omega
      go_wp2
      go_ret
      exact ⟨by rw [hT.out]; simp, rfl⟩
end Go.Proofs.Ytffpccijmgjofaa
