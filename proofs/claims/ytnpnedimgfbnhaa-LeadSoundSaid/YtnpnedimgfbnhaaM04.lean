/- Contracts of the functions that the law reaches, walked, and the plain laws on them (several texts in one). -/
import Derived.Outline
import Derived.StillTailTactics
import Derived.RegionTactic
import Derived.Deep.RegionHeld3
import Derived.Test.YtnpnedimgfbnhaaM03
import Derived.Test.YtnpnedimgfbnhaaM01

/- The document's memory: its calls, one by one. -/
namespace Go.Proofs.Ytnpnedimgfbnhaa
open Go.RowKit Go.Mum

/-- The document's memory: its bytes L lie in a block of their own; or there is none. -/
def RefAt (w : World) (a : Option Addr) (L : List Int) : Prop :=
  ((a = none ∧ L = []) ∨ ∃ q, a = some ⟨q, 0, none⟩ ∧ w.heap[q]? = some (.cells (u8s L).toArray 5 (0, 0))) ∧ IsBytes L ∧ L.length ≤ 32768

theorem RefAt.keep {l : List Nat} {w x : World} {a : Option Addr} {L : List Int} (h : RefAt w a L) (hk : Keep l w x) (hn : ∀ b, a = some b → b.block ∉ l) : RefAt x a L :=
  ⟨h.1.imp id fun ⟨q, e, hq⟩ => ⟨q, e, hk.heap hq (by simpa using hn _ e)⟩, h.2⟩

theorem RefAt.keep0 {w x : World} {a : Option Addr} {L : List Int} (h : RefAt w a L) (hk : Keep [] w x) : RefAt x a L := h.keep hk (fun _ _ => by simp)

theorem RefAt.some_of {w : World} {a : Option Addr} {L : List Int} (h : RefAt w a L) (h0 : 0 < L.length) : ∃ q, a = some ⟨q, 0, none⟩ ∧ w.heap[q]? = some (.cells (u8s L).toArray 5 (0, 0)) := by
  rcases h.1 with ⟨_, rfl⟩ | h
  · simp at h0
  · exact h

theorem RefAt.row {w : World} {a : Option Addr} {L : List Int} (h : RefAt w a L) : Row w a L.length L := by
  refine ⟨h.2.1, ⟨Nat.le_refl _, by have := h.2.2; unfold maxLen; omega⟩, ?_⟩
  rcases h.1 with ⟨rfl, rfl⟩ | ⟨q, rfl, hq⟩
  · exact .inl ⟨rfl, rfl, rfl⟩
  · exact .inr (.inr ⟨q, 0, rfl, fun i hi => by rw [Nat.zero_add]; exact cell_of hq i (by simp [u8s, List.getElem?_eq_getElem hi, List.getD])⟩)

theorem u8_cell {w : World} {q : Nat} {L : List Int} {t : TypeId} (h : w.heap[q]? = some (.cells (u8s L).toArray t (0, 0))) {j : Nat} (hj : j < L.length) : w.cell? ⟨q, j, none⟩ = some (.int .u8 (L.getD j 0)) :=
  cell_of h j (by simp [u8s, List.getElem?_eq_getElem hj, List.getD])

theorem u8_byte {L : List Int} (h : IsBytes L) {j : Nat} (hj : j < L.length) : 0 ≤ L.getD j 0 ∧ L.getD j 0 < 256 := h _ (by simp [List.getD, List.getElem?_eq_getElem hj])

theorem u8_set {w : World} {q : Nat} {L : List Int} {t : TypeId} (h : w.heap[q]? = some (.cells (u8s L).toArray t (0, 0))) (j : Nat) (z : Int) : (w.setCell ⟨q, j, none⟩ (.int .u8 z)).heap[q]? = some (.cells (u8s (L.set j z)).toArray t (0, 0)) := by
  rw [heap_set_same h]
  simp [u8s, List.map_set]

set_option maxHeartbeats 400000 in
theorem fnew_at (n : Nat) (w : World) (hn : n ≤ 512) :
    Calls Try.prog 24 #[.int .i64 n] w fun e w' => e = .returned (.agg #[.slice (some ⟨w.heap.size + 1, 0, none⟩) (64 * n) (64 * n)]) ∧ RefAt w' (some ⟨w.heap.size + 1, 0, none⟩) (List.replicate (64 * n) 0) ∧ Keep [] w w' := by
  have hmk := make_u8 (64 * n) (by omega) ((n : Int) * 64) (by omega)
  go_enter Try.func24, Try.ntmps24
  go_wp2_with fail
  refine bodyPost_ret (v := .agg #[.slice (some ⟨w.heap.size + 1, 0, none⟩) (64 * n) (64 * n)]) (by simp [results, Try.results24, go_sem]) rfl ⟨rfl, ?_, ?_⟩
  · exact ⟨.inr ⟨_, rfl, heap_alloc_at _ (by simp)⟩, (by intro x hx; rw [List.eq_of_mem_replicate hx]; omega), by rw [List.length_replicate]; omega⟩
  · exact ((Keep.refl _ _).alloc _).alloc _

set_option maxHeartbeats 400000 in
theorem fbyte_yes {w : World} {a : Option Addr} {L : List Int} (h : RefAt w a L) (i : Nat) (hi : i < L.length) :
    Calls Try.prog 50 #[.agg #[.slice a L.length L.length], .int .u32 i] w fun e w' => e = .returned (.tuple #[.int .u8 (L.getD i 0), .bool true]) ∧ Keep [] w w' := by
  have hl := h.2.2
  obtain ⟨q, rfl, hq⟩ := h.some_of (by omega)
  have hc : ∀ o, (w.alloc o).cell? ⟨q, i, none⟩ = some (.int .u8 (L.getD i 0)) := fun o => ((Keep.refl [] w).alloc o).cell (u8_cell hq hi) (by simp)
  have hc2 := hc (.cells #[.slice (some ⟨q, 0, none⟩) L.length L.length] 50)
  have hi' : ¬ ((L.length : Int) ≤ (i : Int)) := by omega
  have hi'' : (i : Int) < (L.length : Int) := by omega
  clear hc h
  go_enter Try.func50, Try.ntmps50
  go_wp2
  go_ret2
  exact ⟨rfl, (Keep.refl _ _).alloc _⟩

set_option maxHeartbeats 400000 in
theorem fbyte_no {w : World} {a : Option Addr} {L : List Int} (h : RefAt w a L) (i : Nat) (hi : L.length ≤ i) (hi2 : i < 4294967296) :
    Calls Try.prog 50 #[.agg #[.slice a L.length L.length], .int .u32 i] w fun e w' => e = .returned (.tuple #[.int .u8 0, .bool false]) ∧ Keep [] w w' := by
  have hl := h.2.2
  have hi' : (L.length : Int) ≤ (i : Int) := by omega
  clear h
  go_enter Try.func50, Try.ntmps50
  go_wp2
  go_ret2
  exact ⟨rfl, (Keep.refl _ _).alloc _⟩

/-- What a call that lays bytes leaves. -/
def FPost (a : Option Addr) (L' : List Int) (ok : Bool) (w : World) (e : Ending) (w' : World) : Prop :=
  e = .returned (.bool ok) ∧ RefAt w' a L' ∧ ∃ l, (∀ k ∈ l, ∃ q, a = some ⟨k, q, none⟩) ∧ Keep l w w'

theorem f_no {w : World} {a : Option Addr} {L : List Int} (h : RefAt w a L) (o : Obj) : FPost a L false w (.returned (.bool false)) (w.alloc o) :=
  ⟨rfl, h.keep0 ((Keep.refl _ _).alloc _), [], by simp, (Keep.refl _ _).alloc _⟩

set_option maxHeartbeats 2000000 in
theorem fword_yes {w : World} {a : Option Addr} {L : List Int} (h : RefAt w a L) (i : Nat) (h4 : i % 4 = 0) (hi : i < L.length) (hl4 : L.length % 4 = 0) :
    Calls Try.prog 52 #[.agg #[.slice a L.length L.length], .int .u32 i] w fun e w' => e = .returned (.tuple #[.int .u32 (word4 L i), .bool true]) ∧ Keep [] w w' := by
  have hl := h.2.2
  obtain ⟨q, rfl, hq⟩ := h.some_of (by omega)
  have hq' := heap_alloc_other (.cells #[.slice (some ⟨q, 0, none⟩) L.length L.length] 50) hq
  have c0 := u8_cell hq' hi
  have c1 := u8_cell hq' (j := i + 1) (by omega)
  have c2 := u8_cell hq' (j := i + 2) (by omega)
  have c3 := u8_cell hq' (j := i + 3) (by omega)
  have b0 := u8_byte h.2.1 hi
  have b1 := u8_byte h.2.1 (j := i + 1) (by omega)
  have b2 := u8_byte h.2.1 (j := i + 2) (by omega)
  have b3 := u8_byte h.2.1 (j := i + 3) (by omega)
  have hi0 : (i : Int) < (L.length : Int) := by omega
  have hi1 : (i : Int) + 1 < (L.length : Int) := by omega
  have hi2 : (i : Int) + 2 < (L.length : Int) := by omega
  have hi3 : (i : Int) + 3 < (L.length : Int) := by omega
  have n1 : IntKind.u32.wrap ((i : Int) + 1) = ((i + 1 : Nat) : Int) := by rw [IntKind.wrap_u32]; omega
  have n2 : IntKind.u32.wrap ((i : Int) + 2) = ((i + 2 : Nat) : Int) := by rw [IntKind.wrap_u32]; omega
  have n3 : IntKind.u32.wrap ((i : Int) + 3) = ((i + 3 : Nat) : Int) := by rw [IntKind.wrap_u32]; omega
  have hm : ((i : Int) % 4 != 0) = false := by rw [bne_eq_false_iff_eq]; omega
  have hli : ¬ ((L.length : Int) ≤ (i : Int)) := by omega
  unfold word4
  generalize L.getD i 0 = d0 at *
  generalize L.getD (i + 1) 0 = d1 at *
  generalize L.getD (i + 2) 0 = d2 at *
  generalize L.getD (i + 3) 0 = d3 at *
  have m1 : IntKind.u32.wrap (256 * d1) = d1 * 256 := by rw [IntKind.wrap_u32]; omega
  have m2 : IntKind.u32.wrap (65536 * d2) = d2 * 65536 := by rw [IntKind.wrap_u32]; omega
  have m3 : IntKind.u32.wrap (16777216 * d3) = d3 * 16777216 := by rw [IntKind.wrap_u32]; omega
  have s1 : IntKind.u32.wrap (d0 + d1 * 256) = d0 + d1 * 256 := by rw [IntKind.wrap_u32]; omega
  have s2 : IntKind.u32.wrap (d0 + d1 * 256 + d2 * 65536) = d0 + d1 * 256 + d2 * 65536 := by rw [IntKind.wrap_u32]; omega
  have s3 : IntKind.u32.wrap (d0 + d1 * 256 + d2 * 65536 + d3 * 16777216) = d0 + d1 * 256 + d2 * 65536 + d3 * 16777216 := by rw [IntKind.wrap_u32]; omega
  clear h h4 hl4 hq hq'
  go_enter Try.func52, Try.ntmps52
  go_wp2_with fail
  go_quiet (fail)
  go_wp2
  go_ret2
  exact ⟨rfl, ((Keep.refl _ _).alloc _).drewN _⟩

set_option maxHeartbeats 400000 in
theorem fword_no {w : World} {a : Option Addr} {L : List Int} (h : RefAt w a L) (i : Nat) (hi : i < 4294967296) (hno : i % 4 ≠ 0 ∨ L.length ≤ i) :
    Calls Try.prog 52 #[.agg #[.slice a L.length L.length], .int .u32 i] w fun e w' => e = .returned (.tuple #[.int .u32 0, .bool false]) ∧ Keep [] w w' := by
  have hl := h.2.2
  clear h
  by_cases h4 : i % 4 = 0
  · have hli : (L.length : Int) ≤ (i : Int) := by omega
    have hm : ((i : Int) % 4 != 0) = false := by rw [bne_eq_false_iff_eq]; omega
    clear hno h4
    go_enter Try.func52, Try.ntmps52
    go_wp2_with fail
    go_ret2
    exact ⟨rfl, (Keep.refl _ _).alloc _⟩
  · have hm : ((i : Int) % 4 != 0) = true := by rw [bne_iff_ne]; omega
    clear hno h4
    go_enter Try.func52, Try.ntmps52
    go_wp2_with fail
    go_ret2
    exact ⟨rfl, (Keep.refl _ _).alloc _⟩
end Go.Proofs.Ytnpnedimgfbnhaa

/- The document's memory: words and bytes laid, frames. -/
namespace Go.Proofs.Ytnpnedimgfbnhaa
open Go.RowKit Go.Mum

theorem le4_take {s : Nat} (hs : s < 4294967296) : ∀ k, k < 4 → (le4 s).take (k + 1) = (le4 s).take k ++ [((s / 256 ^ k % 256 : Nat) : Int)]
  | 0, _ => by simp [le4]
  | 1, _ => by simp [le4]
  | 2, _ => by simp [le4]
  | 3, _ => by simp [le4]; omega
  | k + 4, h => by omega

theorem splice_snoc (L : List Int) (p : Nat) (M : List Int) (x : Int) (h : p + M.length < L.length) : (splice L p M).set (p + M.length) x = splice L p (M ++ [x]) := by
  unfold splice
  rw [List.set_append_right _ _ (by rw [List.length_take]; omega), List.length_take, Nat.min_eq_left (by omega), Nat.add_sub_cancel_left, List.set_append_right _ _ (Nat.le_refl _), Nat.sub_self,
    List.drop_eq_getElem_cons h, List.set_cons_zero, List.length_append, List.append_assoc]
  rfl

theorem splice_len (L : List Int) (p : Nat) (M : List Int) (h : p + M.length ≤ L.length) : (splice L p M).length = L.length := length_splice L p M h

theorem refAt_put {w x : World} {q : Nat} {L L' : List Int} (h : RefAt w (some ⟨q, 0, none⟩) L) (hq : x.heap[q]? = some (.cells (u8s L').toArray 5 (0, 0))) (hb : IsBytes L') (hl : L'.length = L.length) : RefAt x (some ⟨q, 0, none⟩) L' :=
  ⟨.inr ⟨q, rfl, hq⟩, hb, by rw [hl]; exact h.2.2⟩

set_option maxHeartbeats 400000 in
theorem ffill_no {w : World} {a : Option Addr} {L : List Int} (h : RefAt w a L) (i : Nat) (hi : i < 4294967296) {src : Option Addr} {c m : Nat} (hm : m ≤ 9223372036854775807) (hno : L.length < i + m) :
    Calls Try.prog 25 #[.agg #[.slice a L.length L.length], .int .u32 i, .slice src m c] w (FPost a L false w) := by
  have hl := h.2.2
  have HF := Lib.hid (f_no h)
  clear h
  by_cases h4 : L.length < i
  · have hli : (L.length : Int) < (i : Int) := by omega
    clear hno h4
    go_enter Try.func25, Try.ntmps25
    go_wp2_with fail
    go_ret
    exact HF.out _
  · have hli : ¬ ((L.length : Int) < (i : Int)) := by omega
    have hlm : (L.length : Int) - (i : Int) < (m : Int) := by omega
    clear hno h4
    go_enter Try.func25, Try.ntmps25
    go_wp2_with fail
    go_ret
    exact HF.out _

theorem take_snoc {M : List Int} {j : Nat} (h : j < M.length) : M.take (j + 1) = M.take j ++ [M.getD j 0] := by
  rw [List.take_add_one, List.getElem?_eq_getElem h]
  simp [List.getD, List.getElem?_eq_getElem h]

set_option maxRecDepth 100000 in
set_option maxHeartbeats 2000000 in
theorem ffill_yes {w : World} {a : Option Addr} {L : List Int} (h : RefAt w a L) (i : Nat) {src : Option Addr} {c : Nat} {M : List Int} (hM : Row w src c M) (hsrc : ∀ b q, src = some b → a = some q → b.block ≠ q.block) (hyes : i + M.length ≤ L.length) :
    Calls Try.prog 25 #[.agg #[.slice a L.length L.length], .int .u32 i, .slice src M.length c] w (FPost a (splice L i M) true w) := by
  have hl := h.2.2
  have hli : ¬ ((L.length : Int) < (i : Int)) := by omega
  have hlm : ¬ ((L.length : Int) - (i : Int) < (M.length : Int)) := by omega
  have HI := Lib.hid (And.intro h (And.intro hM hsrc))
  clear h hM hsrc
  go_enter Try.func25, Try.ntmps25
  go_wp2_with fail
  go_loopw [7] (fun kv wr => ∃ (j : Nat), kv = .int .i64 j ∧ j ≤ M.length ∧ wr.cell? ⟨w.heap.size, 0, none⟩ = some (.slice a L.length L.length) ∧ RefAt wr a (splice L i (M.take j)) ∧ Row wr src c M ∧ ∃ l, (∀ k ∈ l, ∃ q, a = some ⟨k, q, none⟩) ∧ Keep l w wr) (fun kv _ => M.length - (intOf kv).toNat)
  case atStart => exact ⟨0, rfl, by omega, cell_of (heap_alloc_same w _) 0 rfl, by simpa [splice_nil] using HI.out.1.keep0 ((Keep.refl _ _).alloc _), HI.out.2.1.keep0 ((Keep.refl _ _).alloc _), [], by simp, (Keep.refl _ _).alloc _⟩
  case round =>
    obtain ⟨j, rfl, hj, hcb, hA, hR, l, hla, hK⟩ := hrel
    by_cases hlt : j < M.length
    · have hlen : i + (M.take j).length ≤ L.length := by rw [List.length_take]; omega
      have hls := splice_len L i _ hlen
      obtain ⟨q, rfl, hqj⟩ := hA.some_of (by rw [hls]; omega)
      obtain ⟨b, off, rfl⟩ := hR.some_of (by omega)
      have hbq : b ≠ q := HI.out.2.2 _ _ rfl rfl
      have hqw : q < w.heap.size := by
        obtain ⟨q', e, hq'⟩ := HI.out.1.some_of (by omega)
        cases e
        exact lt_of_heap hq'
      have hsc : wr.cell? ⟨b, off + j, none⟩ = some (.int .u8 (M.getD j 0)) := by
        rcases hR.at' with ⟨hh, _⟩ | ⟨rfl, _⟩ | ⟨b', off', e, hc⟩
        · cases hh
        · simp at hlt
        · cases e; exact hc j hlt
      have hx : 0 ≤ M.getD j 0 ∧ M.getD j 0 < 256 := hR.bytes _ (by simp [List.getD, List.getElem?_eq_getElem hlt])
      have hc := u8_cell hqj (j := i + j) (by rw [hls]; omega)
      have hfz := frozen_of hqj (i + j)
      have hd : Keep [q] wr wr.drew := (Keep.refl _ _).drew
      have hqd : wr.drew.heap[q]? = some (.cells (u8s (splice L i (M.take j))).toArray 5 (0, 0)) := hqj
      have hstep := u8_set hqd (i + j) (M.getD j 0)
      have hsn := splice_snoc L i (M.take j) (M.getD j 0) (by rw [List.length_take]; omega)
      rw [List.length_take, Nat.min_eq_left (by omega)] at hsn
      rw [hsn, ← take_snoc hlt] at hstep
      have hc' : wr.drew.cell? ⟨q, i + j, none⟩ = some (.int .u8 ((splice L i (M.take j)).getD (i + j) 0)) := hc
      have hfz' : wr.drew.frozen? ⟨q, i + j, none⟩ = false := hfz
      have hcb' : wr.drew.cell? ⟨w.heap.size, 0, none⟩ = some (.slice (some ⟨q, 0, none⟩) L.length L.length) := hcb
      have hR' : Row wr.drew (some ⟨b, off, none⟩) c M := hR.keep0 ((Keep.refl _ _).drew)
      have hA' : RefAt wr.drew (some ⟨q, 0, none⟩) (splice L i (M.take j)) := hA.keep0 ((Keep.refl _ _).drew)
      have hbytes : IsBytes (splice L i (M.take (j + 1))) := splice_bytes HI.out.1.2.1 (fun x hx => hR.bytes x (List.mem_of_mem_take hx))
      have hlen2 : (splice L i (M.take (j + 1))).length = (splice L i (M.take j)).length := by rw [hls, splice_len]; rw [List.length_take]; omega
      have hij : ((i + j : Nat) : Int) < (L.length : Int) := by omega
      have hij0 : IntKind.i64.wrap (i : Int) = (i : Int) := IntWalk.i64_in _ (by omega)
      have hij2 : IntKind.i64.wrap ((i : Int) + (j : Int)) = ((i + j : Nat) : Int) := by rw [IntWalk.i64_in _ (by omega)]; omega
      have hjm : (j : Int) < (M.length : Int) := by omega
      have hsc' : wr.drew.cell? ⟨b, off + j, none⟩ = some (.int .u8 (M.getD j 0)) := hsc
      generalize hwd : wr.drew = wd at hstep hc' hfz' hcb' hR' hA' hsc'
      have Hwd := Lib.hid hwd
      generalize hije : i + j = ij at *
      have Hij := Lib.hid hije
      clear hije
      have HS := Lib.hid (And.intro hstep (And.intro (refAt_put hA' hstep hbytes hlen2) (And.intro (hR'.keep ((Keep.refl [q] wd).setCell (p := ⟨q, ij, none⟩) (.inl (by simp)) (.int .u8 (M.getD j 0))) (by simp only [Option.some.injEq, forall_eq']; simpa using hbq)) (And.intro hla hK))))
      generalize M.getD j 0 = x at *
      clear hstep hsn hls hlen hqj hK hA hR hA' hR' hbytes hlen2 hqd hd hla
      go_wp2_with fail
      go_still_tail 11, (by kernel_rfl)
      change wpList _ _ _ _ _ wr.drew
      rw [Hwd.out]
      go_wp2
      go_roundw
      case rel => exact ⟨j + 1, by go_num, by omega, by rw [World.cell?_setCell_other _ _ _ _ (by simp)]; exact hcb', HS.out.2.1, HS.out.2.2.1, q :: l, by intro k hk; rcases List.mem_cons.1 hk with rfl | hk; exact ⟨0, rfl⟩; exact HS.out.2.2.2.1 k hk, ((HS.out.2.2.2.2.drew.weaken (l' := q :: l) (fun k hk _ => by simp [hk])).then (by rw [Hwd.out]; exact (Keep.refl [q] wd).setCell (.inl (by simp)) _) (by simp))⟩
      case measure => simp [intOf]; omega
    · obtain rfl : j = M.length := by omega
      have HF : Hid (FPost a (splice L i M) true w (.returned (.bool true)) wr) := Lib.hid ⟨rfl, by simpa using hA, l, hla, hK⟩
      clear hA hR hla hK
      go_wp2_with fail
      go_ret
      exact HF.out
end Go.Proofs.Ytnpnedimgfbnhaa

/- The document's memory: copies and frames. -/
namespace Go.Proofs.Ytnpnedimgfbnhaa
open Go.RowKit Go.Mum

/-- What a call that hands back bytes leaves. -/
def RowPost (M : List Int) (w : World) (e : Ending) (w' : World) : Prop := ∃ a c, e = .returned (.slice a M.length c) ∧ Row w' a c M ∧ Keep [] w w'

theorem rowPost_own {M : List Int} {w : World} {e : Ending} {w' : World} (h : OwnPost M w e w') : RowPost M w e w' := by
  obtain ⟨v, rfl, ho, hk⟩ := h
  obtain ⟨a, c, rfl, hr⟩ := ho.shape
  exact ⟨a, c, rfl, hr, hk⟩

theorem rowPost_none {w : World} : RowPost [] w (.returned (.slice none 0 0)) w := ⟨Option.none, 0, rfl, Row.nil w, Keep.refl _ _⟩

theorem own_grown {w x y : World} {v : Value} (h : Keep [] w x) (hg : x.grownBy y v.ownBlock) {L : List Int} (ho : Own x w.heap.size 5 v L) : Keep [] w y :=
  h.grown hg fun k hk => .inr (ho.block k hk).1

/-- What Copy leaves. -/
def FCopyPost (L : List Int) (w : World) (e : Ending) (w' : World) : Prop := ∃ v, e = .returned (.agg #[v]) ∧ Own w' w.heap.size 5 v L ∧ Keep [] w w'

end Go.Proofs.Ytnpnedimgfbnhaa

/- A region whose order is drawn: the condition on the world may grow as the calls come back. -/
namespace Go.Mum
open Go.RowKit

section
variable {P : Program} {ops : Array Oper} {Q : Exit → Act → World → Prop} {md : Region.Mode} {S S' : World → Prop}

theorem wpAnyH_grow (h : ∀ w, S' w → S w) : ∀ (fuel : Nat) (listed : Array Bool) (a : Act) (w : World), wpAnyH P md ops Q S' fuel listed a w → wpAnyH P md ops Q S fuel listed a w
  | 0, _, _, _, q => q
  | fuel + 1, _, _, _, q => ⟨q.1, fun i hi => wpOp_mono (fun a' w' r => ⟨h _ r.1, wpAnyH_grow h fuel _ a' w' r.2⟩) (q.2 i hi)⟩

/-- Behind a call: the region goes on under a condition that says more. -/
theorem shut_grow {fuel : Nat} {listed : Array Bool} {K : Act → World → Prop} (S' : World → Prop) (hK : Shut (∀ a w, S w → (S w → wpAnyH P md ops Q S fuel listed a w) → K a w)) (h : ∀ w, S' w → S w)
    {a : Act} {w : World} (hS : S' w) (hw : S' w → wpAnyH P md ops Q S' fuel listed a w) : K a w :=
  hK.out a w (h w hS) fun _ => wpAnyH_grow h fuel listed a w (hw hS)
end
end Go.Mum

/- What the statements on memories share: made, near. -/
namespace Go.Proofs.Ytnpnedimgfbnhaa
open Go.RowKit Go.Mum

/-- A memory and the document's, with the same bytes. -/
structure Both (w : World) (r fb g q n : Nat) (L : List Int) : Prop where
  ram : RamAt w r fb g (List.range n) L
  ref : RefAt w (some ⟨q, 0, none⟩) L
  len : L.length = 64 * n
  qs : q ≠ r ∧ q ≠ fb ∧ q ≠ g
  n1 : 1 ≤ n ∧ n ≤ 16
  qd : w.heap[q]? = some (.cells (u8s L).toArray 5 (0, 0))

theorem Both.keep {l : List Nat} {w x : World} {r fb g q n : Nat} {L : List Int} (h : Both w r fb g q n L) (hk : Keep l w x) (h1 : r ∉ l) (h2 : fb ∉ l) (h3 : g ∉ l) (h4 : q ∉ l) : Both x r fb g q n L :=
  ⟨h.ram.keep hk h1 h2 h3, h.ref.keep hk (by simpa using h4), h.len, h.qs, h.n1, hk.heap h.qd h4⟩

theorem Both.keep0 {w x : World} {r fb g q n : Nat} {L : List Int} (h : Both w r fb g q n L) (hk : Keep [] w x) : Both x r fb g q n L := h.keep hk (by simp) (by simp) (by simp) (by simp)

theorem Both.lt {w : World} {r fb g q n : Nat} {L : List Int} (h : Both w r fb g q n L) : r < w.heap.size ∧ fb < w.heap.size ∧ g < w.heap.size ∧ q < w.heap.size :=
  ⟨h.ram.lt.1, h.ram.lt.2.1, h.ram.lt.2.2, lt_of_heap h.qd⟩

/-- Only the two blocks of bytes were turned; or the same and new ones. -/
theorem Both.set {w x : World} {r fb g q n : Nat} {L L' : List Int} (h : Both w r fb g q n L) (hl : L'.length = L.length) (hr : RamAt x r fb g (List.range n) L') (hq : x.heap[q]? = some (.cells (u8s L').toArray 5 (0, 0))) : Both x r fb g q n L' :=
  ⟨hr, ⟨.inr ⟨q, rfl, hq⟩, hr.bytes, by rw [hl]; exact h.ref.2.2⟩, by rw [hl]; exact h.len, h.qs, h.n1, hq⟩

/-- The address that a statement asks for. -/
def near (a : Nat) : Nat := if a % 3 = 0 then a else a % 400

theorem near_lt {a : Nat} (h : a < 4294967296) : near a < 4294967296 := by unfold near; split <;> omega

/-- What made leaves. -/
def MadePost (w : World) (e : Ending) (w' : World) : Prop :=
  ∃ r fb g q n, n ≤ 5 ∧ w.heap.size ≤ r ∧ w.heap.size ≤ fb ∧ w.heap.size ≤ g ∧ w.heap.size ≤ q ∧ e = .returned (.tuple #[.pointer (some ⟨r, 0, none⟩), .agg #[.slice (some ⟨q, 0, none⟩) (64 * n) (64 * n)]]) ∧
    Both w' r fb g q n (List.replicate (64 * n) 0) ∧ Keep [] w w'

end Go.Proofs.Ytnpnedimgfbnhaa

/- What the statements on memories share: the pair, call by call. -/
namespace Go.Proofs.Ytnpnedimgfbnhaa
open Go.RowKit Go.Mum

theorem getD_splice_in {L M : List Int} {p j : Nat} (hj : j < M.length) (h : p + M.length ≤ L.length) : (splice L p M).getD (p + j) 0 = M.getD j 0 := by
  unfold splice
  simp only [List.getD]
  rw [List.getElem?_append_right (by rw [List.length_take]; omega), List.length_take, Nat.min_eq_left (by omega), Nat.add_sub_cancel_left, List.getElem?_append_left hj]

theorem getD_splice_out {L M : List Int} {p j : Nat} (hj : j < p ∨ p + M.length ≤ j) (h : p + M.length ≤ L.length) : (splice L p M).getD j 0 = L.getD j 0 := by
  unfold splice
  simp only [List.getD]
  rcases hj with hj | hj
  · rw [List.getElem?_append_left (by rw [List.length_take]; omega), List.getElem?_take_of_lt hj]
  · rw [List.getElem?_append_right (by rw [List.length_take]; omega), List.length_take, Nat.min_eq_left (by omega), List.getElem?_append_right (by omega), List.getElem?_drop]
    congr 2
    omega

theorem word4_splice {L : List Int} {p z : Nat} (h : p + 4 ≤ L.length) : word4 (splice L p (le4 z)) p = (z : Int) := by
  have e : ∀ j, j < 4 → (splice L p (le4 z)).getD (p + j) 0 = (le4 z).getD j 0 := fun j hj => getD_splice_in (by simpa [le4] using hj) (by simpa [le4] using h)
  have e0 := e 0 (by omega)
  rw [Nat.add_zero] at e0
  unfold word4
  rw [e0, e 1 (by omega), e 2 (by omega), e 3 (by omega)]
  simp [le4]
  omega

/-- In a memory that New made bytes lie side by side. -/
theorem putAt_range (n : Nat) : ∀ (M L : List Int) (a : Nat), a + M.length ≤ 64 * n → L.length = 64 * n → putAt (List.range n) L a M = splice L a M
  | [], L, a, _, _ => by rw [splice_nil]; rfl
  | x :: M, L, a, h, hl => by
    rw [List.length_cons] at h
    rw [putAt, pl_range (by omega), putAt_range n M _ (a + 1) (by omega) (by rw [List.length_set]; exact hl), splice_cons L a x M (by omega)]

end Go.Proofs.Ytnpnedimgfbnhaa

/- Bytes laid of which there may be none. -/
namespace Go.Proofs.Ytnpnedimgfbnhaa
open Go.RowKit Go.Mum

set_option maxRecDepth 100000 in
set_option maxHeartbeats 1000000 in
theorem rlay_empty {w : World} {r fb g : Nat} {ks : List Nat} {L : List Int} (h : RamAt w r fb g ks L) (a : Nat) (hyes : a ≤ 64 * ks.length) {src : Option Addr} {c : Nat} :
    Calls Try.prog 40 #[.int .u32 a, .slice src 0 c, .int .i64 1, .func (.func 41) #[.pointer (some ⟨r, 0, none⟩)] #[], .func (.func 42) #[.pointer (some ⟨r, 0, none⟩)] #[]] w fun e w' => e = .returned (.bool true) ∧ w = w' := by
  have hs := h.size
  have C := rwithin_any h.sz a 0 1 (by omega) (by omega) (.inl rfl)
  rw [decide_eq_true (by omega)] at C
  have C := Lib.hid C
  clear h
  go_enter Try.func40, Try.ntmps40
  go_wp2_with fail
  refine C.out.mono ?_
  rintro e w' ⟨rfl, rfl⟩
  go_wp2_with fail
  refine wp_loop_rounds 1 ?_
  rw [rounds_succ]
  go_wp2_with fail
  go_ret
  exact ⟨rfl, rfl⟩

set_option maxHeartbeats 1000000 in
theorem rfill_all {w : World} {r fb g : Nat} {ks : List Nat} {L : List Int} (h : RamAt w r fb g ks L) (a : Nat) (ha : a < 4294967296) {src : Option Addr} {c : Nat} {M : List Int}
    (hM : Row w src c M) (hsrc : M = [] ∨ ∀ b, src = some b → b.block ≠ g) (hl : M.length ≤ 9223372036854775807) :
    Calls Try.prog 27 #[.pointer (some ⟨r, 0, none⟩), .int .u32 a, .slice src M.length c] w (LayPost r fb g ks L a M 1 w) := by
  rcases hsrc with h0 | hsrc
  · subst h0
    by_cases hyes : a ≤ 64 * ks.length
    · have C := Lib.hid (rlay_empty h a hyes (src := src) (c := c))
      have hmf : ∀ (fn : Fn) (first cap : Array Value) (w : World), (Instr.makeFunc fn first cap).run Try.prog w = .ok (.func fn first cap) w := fun _ _ _ _ => rfl
      have HF : Hid (LayPost r fb g ks L a [] 1 w (.returned (.bool true)) w) := Lib.hid ⟨by rw [layB_yes (by simp; omega)], by rw [if_pos (layB_yes (by simp; omega))]; exact h, Keep.refl _ _⟩
      clear h hM
      go_enter Try.func27, Try.ntmps27
      go_wp2_with fail
      refine C.out.mono ?_
      rintro e w' ⟨rfl, rfl⟩
      go_wp2_with fail
      go_ret
      exact HF.out
    · have C := Lib.hid (rlay_no h.sz a ha 1 (.inl rfl) (src := src) (c := c) 0 (by omega) (by omega))
      have hmf : ∀ (fn : Fn) (first cap : Array Value) (w : World), (Instr.makeFunc fn first cap).run Try.prog w = .ok (.func fn first cap) w := fun _ _ _ _ => rfl
      have HF : Hid (LayPost r fb g ks L a [] 1 w (.returned (.bool false)) w) := Lib.hid ⟨by rw [layB_no (by simp; omega)], by rw [if_neg (by rw [layB_no (by simp; omega)]; simp)]; exact h, Keep.refl _ _⟩
      clear h hM
      go_enter Try.func27, Try.ntmps27
      go_wp2_with fail
      refine C.out.mono ?_
      rintro e w' ⟨rfl, rfl⟩
      go_wp2_with fail
      go_ret
      exact HF.out
  · exact rfill_any h a ha hM hsrc hl
end Go.Proofs.Ytnpnedimgfbnhaa
