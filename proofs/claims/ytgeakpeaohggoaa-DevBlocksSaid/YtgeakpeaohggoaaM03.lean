/- Contracts of the functions that the law reaches, walked, and the plain laws on them (several texts in one). -/
import Derived.Laws.BitsLemmas
import Derived.Lib.EndianBits
import Derived.BigQuiet
import Derived.Maps.AppendAt
import Derived.Deep.AppendLies
import Derived.Test.YtgeakpeaohggoaaM01
import Derived.Test.YtgeakpeaohggoaaM02

/- Bits of entries: laws on numbers alone. -/
namespace Go.Mum
open Go.RowKit

theorem and_u32 (a b : Nat) (ha : a < 4294967296) (hb : b < 4294967296) : bits .and .u32 (a : Int) (b : Int) = ((a &&& b : Nat) : Int) := (bits_nat .u32 32 (by decide) wraps_u32 a b ha hb).1
theorem or_u32 (a b : Nat) (ha : a < 4294967296) (hb : b < 4294967296) : bits .or .u32 (a : Int) (b : Int) = ((a ||| b : Nat) : Int) := (bits_nat .u32 32 (by decide) wraps_u32 a b ha hb).2

/-- 'a &^ 63'. -/
theorem andNot63 (a : Nat) (ha : a < 4294967296) : bits .andNot .u32 (a : Int) 63 = ((a / 64 * 64 : Nat) : Int) := by
  have h1 : (BitVec.ofInt 32 (a : Int)).toNat = a := by
    rw [BitVec.ofInt_natCast, BitVec.toNat_ofNat]; exact Nat.mod_eq_of_lt (by omega)
  show IntKind.u32.wrap ((BitVec.ofInt 32 (a : Int) &&& ~~~BitVec.ofInt 32 63).toNat : Int) = _
  have e : (BitVec.ofInt 32 (a : Int) &&& ~~~BitVec.ofInt 32 63).toNat = a / 64 * 64 := by
    apply Nat.eq_of_testBit_eq
    intro i
    rw [BitVec.toNat_and, Nat.testBit_and, h1, BitVec.testBit_toNat, BitVec.getLsbD_not, show a / 64 * 64 = 2 ^ 6 * (a / 2 ^ 6) by rw [Nat.mul_comm], Nat.testBit_two_pow_mul, Nat.testBit_div_two_pow]
    by_cases hi : i < 6
    · have : i = 0 ∨ i = 1 ∨ i = 2 ∨ i = 3 ∨ i = 4 ∨ i = 5 := by omega
      rcases this with rfl | rfl | rfl | rfl | rfl | rfl <;> simp
    · have h6 : 6 ≤ i := by omega
      rw [show i - 6 + 6 = i by omega]
      by_cases h32 : i < 32
      · have hz : (BitVec.ofInt 32 63).getLsbD i = false := by
          rw [show (63 : Int) = ((63 : Nat) : Int) by rfl, BitVec.ofInt_natCast, BitVec.getLsbD_ofNat]
          have : (63 : Nat).testBit i = false := Nat.testBit_lt_two_pow (Nat.lt_of_lt_of_le (show 63 < 2 ^ 6 by decide) (Nat.pow_le_pow_right (by decide) h6))
          simp [this]
        rw [hz]
        simp [h6, h32]
      · have : a.testBit i = false := Nat.testBit_lt_two_pow (Nat.lt_of_lt_of_le (show a < 2 ^ 32 by omega) (Nat.pow_le_pow_right (by decide) (by omega)))
        simp [this]
  rw [e, IntKind.wrap_u32]
  omega

/-- One bit. -/
theorem and_pow (a i : Nat) : a &&& 2 ^ i = a / 2 ^ i % 2 * 2 ^ i := by
  apply Nat.eq_of_testBit_eq
  intro j
  rw [Nat.testBit_and, Nat.testBit_two_pow, Nat.mul_comm, Nat.testBit_two_pow_mul]
  by_cases h : i = j
  · subst h
    simp only [decide_true, Bool.and_true, Nat.le_refl, Nat.sub_self, Nat.testBit_zero, Bool.true_and]
    rw [Nat.testBit_eq_decide_div_mod_eq]
    congr 1
    rw [eq_iff_iff]
    omega
  · by_cases hl : i ≤ j
    · have : (a / 2 ^ i % 2).testBit (j - i) = false := Nat.testBit_lt_two_pow (Nat.lt_of_lt_of_le (Nat.mod_lt _ (by decide)) (show 2 ^ 1 ≤ 2 ^ (j - i) from Nat.pow_le_pow_right (by decide) (by omega)))
      simp [h, this]
    · simp [h, hl]

/-- The bits of two entries together, as the code reckons them. -/
def bothN (x y : Nat) : Nat := (((7 &&& (x ||| 8)) ||| (x &&& 8)) &&& (y ||| 8)) ||| (y &&& 8)
/-- .. and as the document says. -/
def refBits (x y : Nat) : Nat := 1 + (if x / 2 % 2 = 1 ∧ y / 2 % 2 = 1 then 2 else 0) + (if x / 4 % 2 = 1 ∧ y / 4 % 2 = 1 then 4 else 0) + (if x / 8 % 2 = 1 ∨ y / 8 % 2 = 1 then 8 else 0) + (if y / 16 % 2 = 1 then 16 else 0)

theorem both_mod (x y : Nat) : bothN x y ||| (y &&& 16) = bothN (x % 32) (y % 32) ||| (y % 32 &&& 16) := by
  apply Nat.eq_of_testBit_eq
  intro i
  unfold bothN
  simp only [Nat.testBit_or, Nat.testBit_and, show 32 = 2 ^ 5 by rfl, Nat.testBit_mod_two_pow]
  by_cases h : i < 5
  · simp [h]
  · have h5 : 2 ^ 5 ≤ 2 ^ i := Nat.pow_le_pow_right (by decide) (by omega)
    have t7 : (7 : Nat).testBit i = false := Nat.testBit_lt_two_pow (Nat.lt_of_lt_of_le (by decide) h5)
    have t8 : (8 : Nat).testBit i = false := Nat.testBit_lt_two_pow (Nat.lt_of_lt_of_le (by decide) h5)
    have t16 : (16 : Nat).testBit i = false := Nat.testBit_lt_two_pow (Nat.lt_of_lt_of_le (by decide) h5)
    simp [h, t7, t8, t16]

theorem both_all : ∀ x y : Fin 32, x.val % 2 = 1 → y.val % 2 = 1 → bothN x.val y.val ||| (y.val &&& 16) = refBits x.val y.val := by decide +kernel

theorem both_ref (x y : Nat) (hx : x % 2 = 1) (hy : y % 2 = 1) : bothN x y ||| (y &&& 16) = refBits x y := by
  have h := both_all ⟨x % 32, Nat.mod_lt _ (by decide)⟩ ⟨y % 32, Nat.mod_lt _ (by decide)⟩ (by simp; omega) (by simp; omega)
  simp only at h
  rw [both_mod, h]
  unfold refBits
  have e1 : x % 32 / 2 % 2 = x / 2 % 2 := by omega
  have e2 : y % 32 / 2 % 2 = y / 2 % 2 := by omega
  have e3 : x % 32 / 4 % 2 = x / 4 % 2 := by omega
  have e4 : y % 32 / 4 % 2 = y / 4 % 2 := by omega
  have e5 : x % 32 / 8 % 2 = x / 8 % 2 := by omega
  have e6 : y % 32 / 8 % 2 = y / 8 % 2 := by omega
  have e7 : y % 32 / 16 % 2 = y / 16 % 2 := by omega
  rw [e1, e2, e3, e4, e5, e6, e7]

theorem bothN_lt (x y : Nat) : bothN x y < 16 := by
  unfold bothN
  have h1 : (y &&& 8) < 16 := Nat.lt_of_le_of_lt Nat.and_le_right (by decide)
  have h2 : (7 &&& (x ||| 8)) < 16 := Nat.lt_of_le_of_lt Nat.and_le_left (by decide)
  have h3 : (x &&& 8) < 16 := Nat.lt_of_le_of_lt Nat.and_le_right (by decide)
  have h4 : (7 &&& (x ||| 8)) ||| (x &&& 8) < 16 := Nat.or_lt_two_pow (n := 4) h2 h3
  have h5 : ((7 &&& (x ||| 8)) ||| (x &&& 8)) &&& (y ||| 8) < 16 := Nat.lt_of_le_of_lt Nat.and_le_left h4
  exact Nat.or_lt_two_pow (n := 4) h5 h1

theorem refBits_lt (x y : Nat) : refBits x y < 32 := by unfold refBits; (repeat' split) <;> omega

/-- A bit that is not there is laid. -/
theorem or_bit (x i : Nat) (hi : i < 32) (hx : x < 4294967296) (h : x / 2 ^ i % 2 = 0) : x ||| 2 ^ i = x + 2 ^ i := by
  have hp : 2 ^ i < 4294967296 := Nat.pow_lt_pow_right (a := 2) (n := 32) (by decide) hi
  have ht : x.testBit i = false := by rw [Nat.testBit_eq_decide_div_mod_eq, h]; rfl
  have e : BitVec.ofNat 32 x &&& BitVec.ofNat 32 (2 ^ i) = 0#32 := by
    apply BitVec.eq_of_toNat_eq
    rw [BitVec.toNat_and, BitVec.toNat_ofNat, BitVec.toNat_ofNat, Nat.mod_eq_of_lt (by omega), Nat.mod_eq_of_lt (by omega), and_pow, h]
    simp
  have h1 := BitVec.add_eq_or_of_and_eq_zero _ _ e
  have hsum : x + 2 ^ i < 4294967296 := by
    have h2 : x < 2 ^ 32 := by omega
    have := Nat.or_lt_two_pow (n := 32) h2 (show 2 ^ i < 2 ^ 32 by omega)
    -- the bits above i and below: x = q * 2^(i+1) + r with r < 2^i
    have hq : x / 2 ^ i = 2 * (x / 2 ^ i / 2) := by omega
    have hd := Nat.div_add_mod x (2 ^ i)
    have hr := Nat.mod_lt x (Nat.two_pow_pos i)
    have hk : 2 ^ (i + 1) * (x / 2 ^ i / 2) = 2 ^ i * (x / 2 ^ i) := by rw [Nat.pow_succ, Nat.mul_assoc, ← hq]
    obtain ⟨j, hj⟩ : ∃ j, 32 = i + 1 + j := ⟨31 - i, by omega⟩
    have hle : x / 2 ^ i / 2 < 2 ^ j := by
      rw [Nat.div_div_eq_div_mul, ← Nat.pow_succ, Nat.div_lt_iff_lt_mul (Nat.two_pow_pos _), ← Nat.pow_add, Nat.add_comm, ← hj]
      exact h2
    have hm : 2 ^ (i + 1) * (x / 2 ^ i / 2 + 1) ≤ 2 ^ (i + 1) * 2 ^ j := Nat.mul_le_mul_left _ hle
    rw [← Nat.pow_add, ← hj, Nat.mul_add, hk, Nat.mul_one, Nat.pow_succ] at hm
    omega
  have h3 := congrArg BitVec.toNat h1
  rw [BitVec.toNat_add, BitVec.toNat_or, BitVec.toNat_ofNat, BitVec.toNat_ofNat, Nat.mod_eq_of_lt (show x < 2 ^ 32 by omega), Nat.mod_eq_of_lt (show 2 ^ i < 2 ^ 32 by omega), Nat.mod_eq_of_lt (by omega)] at h3
  exact h3.symm
end Go.Mum

/- Devices: what lies in the memory of some; the calls that only read. -/
namespace Go.Proofs.Ytgeakpeaohggoaa
open Go.RowKit Go.Mum
set_option linter.unusedVariables false
set_option linter.unusedSimpArgs false
set_option maxRecDepth 100000

/-- An event. -/
structure Ev where
  at' : Int
  kd : Int
  by' : Int

def evC (e : Ev) : List Value := [.int .i64 e.at', .int .i64 e.kd, .int .u8 e.by']
def evsC (l : List Ev) : List Value := l.flatMap evC
/-- What may be. -/
def Ev.May (e : Ev) : Prop := 0 ≤ e.kd ∧ e.kd ≤ 2 ∧ 0 ≤ e.at' ∧ e.at' ≤ 1073741824 ∧ (e.kd = 1 ∨ e.by' = 0)
/-- What the machine's numbers hold. -/
def Ev.Ok (e : Ev) : Prop := (-9223372036854775808 ≤ e.at' ∧ e.at' ≤ 9223372036854775807) ∧ (-9223372036854775808 ≤ e.kd ∧ e.kd ≤ 9223372036854775807) ∧ (0 ≤ e.by' ∧ e.by' < 256)

theorem evsC_cons (e : Ev) (l : List Ev) : evsC (e :: l) = evC e ++ evsC l := rfl
theorem evsC_append (l m : List Ev) : evsC (l ++ m) = evsC l ++ evsC m := by simp [evsC]
theorem evsC_length (l : List Ev) : (evsC l).length = l.length * 3 := by
  induction l with
  | nil => rfl
  | cons e l ih => rw [evsC_cons, List.length_append, ih, List.length_cons]; simp only [evC, List.length_cons, List.length_nil]; omega

/-- The state of devices: what the document speaks of. -/
structure DS where
  bits : Nat
  mask : Nat
  queue : List Int
  disk : List Int
  bk : Nat
  ad : Nat
  st : Nat
  kd : Nat
  fr : Nat
  to : Nat
  script : List Ev
  out : List Int

structure DS.Ok (s : DS) : Prop where
  bits : s.bits < 8
  mask : s.mask < 8
  queue : IsBytes s.queue ∧ s.queue.length ≤ 32
  disk : IsBytes s.disk ∧ s.disk.length ≤ 2048 ∧ s.disk.length % 64 = 0
  bk : s.bk < 4294967296
  ad : s.ad < 4294967296
  st : s.st ≤ 2
  kd : s.kd ≤ 2
  fr : s.fr < 4294967296
  to : s.to < 4294967296
  script : (∀ e ∈ s.script, e.May ∧ e.Ok) ∧ s.script.length ≤ 64
  out : IsBytes s.out ∧ s.out.length ≤ 1073741824

def dvC (s : DS) (q bl sc ou : Value) : Array Value :=
  #[.int .u32 (s.bits : Nat), .int .u32 (s.mask : Nat), q, bl, .int .u32 (s.bk : Nat), .int .u32 (s.ad : Nat), .int .u32 (s.st : Nat), .int .u32 (s.kd : Nat), .int .u32 (s.fr : Nat), .int .u32 (s.to : Nat), .bool true, sc, ou]

/-- The devices at b, with all the blocks F that are theirs. -/
structure DvIn (w : World) (b : Nat) (s : DS) (q bl sc ou : Value) : Prop where
  cs : w.heap[b]? = some (.cells (dvC s q bl sc ou) 74 (0, 0))
  hq : Buf w 5 1 q s.queue.length (u8s s.queue)
  hbl : Buf w 113 64 bl (s.disk.length / 64) (u8s s.disk)
  hsc : Buf w 25 3 sc s.script.length (evsC s.script)
  hou : Buf w 5 1 ou s.out.length (u8s s.out)
  nodup : Aps [[b], blk q, blk bl, blk sc, blk ou]

structure DvAt (w : World) (b : Nat) (F : List Nat) (s : DS) : Prop where
  ok : s.Ok
  ex : ∃ q bl sc ou, DvIn w b s q bl sc ou ∧ F = b :: (blk q ++ blk bl ++ blk sc ++ blk ou)

theorem DvIn.keep {w x : World} {l : List Nat} {b : Nat} {s : DS} {q bl sc ou : Value} (h : DvIn w b s q bl sc ou) (hk : Keep l w x) (hn : ∀ k ∈ b :: (blk q ++ blk bl ++ blk sc ++ blk ou), k ∉ l) : DvIn x b s q bl sc ou :=
  ⟨hk.heap h.cs (hn b (by simp)), h.hq.keep hk (fun k hk => hn k (by simp [hk])), h.hbl.keep hk (fun k hk => hn k (by simp [hk])), h.hsc.keep hk (fun k hk => hn k (by simp [hk])), h.hou.keep hk (fun k hk => hn k (by simp [hk])), h.nodup⟩

theorem DvIn.lt {w : World} {b : Nat} {s : DS} {q bl sc ou : Value} (hi : DvIn w b s q bl sc ou) : ∀ a ∈ [[b], blk q, blk bl, blk sc, blk ou], ∀ k ∈ a, k < w.heap.size := by
  intro a ha k hk
  simp only [List.mem_cons, List.not_mem_nil, or_false] at ha
  rcases ha with rfl | rfl | rfl | rfl | rfl
  · simp at hk; subst hk; exact lt_of_heap hi.cs
  · exact hi.hq.lt k hk
  · exact hi.hbl.lt k hk
  · exact hi.hsc.lt k hk
  · exact hi.hou.lt k hk

theorem DvAt.keep {w x : World} {l : List Nat} {b : Nat} {F : List Nat} {s : DS} (h : DvAt w b F s) (hk : Keep l w x) (hn : ∀ k ∈ F, k ∉ l) : DvAt x b F s := by
  obtain ⟨ok, q, bl, sc, ou, hi, rfl⟩ := h
  exact ⟨ok, q, bl, sc, ou, hi.keep hk hn, rfl⟩
theorem DvAt.keep0 {w x : World} {b : Nat} {F : List Nat} {s : DS} (h : DvAt w b F s) (hk : Keep [] w x) : DvAt x b F s := h.keep hk (fun _ _ => by simp)
theorem DvAt.lt {w : World} {b : Nat} {F : List Nat} {s : DS} (h : DvAt w b F s) : ∀ k ∈ F, k < w.heap.size := by
  obtain ⟨ok, q, bl, sc, ou, hi, rfl⟩ := h
  intro k hk
  simp only [List.mem_cons, List.mem_append] at hk
  rcases hk with rfl | ((hk | hk) | hk) | hk
  · exact lt_of_heap hi.cs
  · exact hi.hq.lt k hk
  · exact hi.hbl.lt k hk
  · exact hi.hsc.lt k hk
  · exact hi.hou.lt k hk
theorem DvAt.mem {w : World} {b : Nat} {F : List Nat} {s : DS} (h : DvAt w b F s) : b ∈ F := by
  obtain ⟨ok, q, bl, sc, ou, hi, rfl⟩ := h
  simp

/-- What a call that writes devices leaves. -/
def DvTo (b : Nat) (F : List Nat) (s' : DS) (w w' : World) : Prop := ∃ F', DvAt w' b F' s' ∧ Keep F w w' ∧ ∀ k ∈ F', k ∈ F ∨ w.heap.size ≤ k

/-- Devices that are not there, and such as no call made. -/
def NoDv (x : World) (v : Value) : Prop := v = .pointer none ∨ ∃ q, v = .pointer (some ⟨q, 0, none⟩) ∧ x.cell? ⟨q, 10, none⟩ = some (.bool false)
theorem NoDv.keep {x y : World} {v : Value} (h : NoDv x v) (hk : Keep [] x y) : NoDv y v := by
  rcases h with h | ⟨q, h, hc⟩
  · exact .inl h
  · exact .inr ⟨q, h, hk.cell hc (by simp)⟩

theorem dnone_yes {w : World} {v : Value} (h : NoDv w v) : Calls Try.prog 37 #[v] w fun e w' => e = .returned (.bool true) ∧ w' = w := by
  rcases h with rfl | ⟨q, rfl, hc⟩
  · go_enter Try.func37, Try.ntmps37
    go_wp2
    go_ret
    exact ⟨rfl, rfl⟩
  · go_enter Try.func37, Try.ntmps37
    go_wp2
    go_ret
    exact ⟨rfl, rfl⟩

theorem dnone_no {w : World} {b : Nat} (hc : w.cell? ⟨b, 10, none⟩ = some (.bool true)) : Calls Try.prog 37 #[.pointer (some ⟨b, 0, none⟩)] w fun e w' => e = .returned (.bool false) ∧ w' = w := by
  go_enter Try.func37, Try.ntmps37
  go_wp2
  go_ret
  exact ⟨rfl, rfl⟩

theorem busy_at {w : World} {b st : Nat} (hc : w.cell? ⟨b, 6, none⟩ = some (.int .u32 st)) :
    Calls Try.prog 40 #[.pointer (some ⟨b, 3, none⟩)] w fun e w' => e = .returned (.bool (decide (st = 1))) ∧ w' = w := by
  have q : ((st : Int) == 1) = decide (st = 1) := by rw [Bool.eq_iff_iff]; simp; omega
  go_enter Try.func40, Try.ntmps40
  go_wp2
  go_ret
  simp [q]

def firstS (L : List Int) : Int := match L with | [] => 4294967295 | z :: _ => z

theorem first_at {w : World} {b : Nat} {q : Value} {L : List Int} (hL : IsBytes L) (hc : w.cell? ⟨b, 2, none⟩ = some q) (hq : Buf w 5 1 q L.length (u8s L)) :
    Calls Try.prog 44 #[.pointer (some ⟨b, 0, none⟩)] w fun e w' => e = .returned (.int .u32 (firstS L)) ∧ w' = w := by
  cases L with
  | nil =>
    obtain ⟨_, a, c, rfl, _⟩ := hq
    go_enter Try.func44, Try.ntmps44
    go_wp2
    go_ret
    exact ⟨rfl, rfl⟩
  | cons z L =>
    obtain ⟨g, off, c, rfl, hle, hcs⟩ := hq.cells (by simp)
    have hz := hcs 0 (.int .u8 z) (by simp [u8s])
    rw [Nat.add_zero] at hz
    simp only [List.length_cons] at hc hle
    have hb := hL z (by simp)
    have hw : IntKind.u32.wrap z = z := by rw [IntKind.wrap_u32]; omega
    have hn : ((L.length : Int) + 1 == 0) = false := by simp; omega
    go_enter Try.func44, Try.ntmps44
    go_wp2
    go_ret
    simp [hw, firstS]

theorem asked_at {w : World} {b bb mm : Nat} (h0 : w.cell? ⟨b, 0, none⟩ = some (.int .u32 bb)) (h1 : w.cell? ⟨b, 1, none⟩ = some (.int .u32 mm)) :
    Calls Try.prog 56 #[.pointer (some ⟨b, 0, none⟩)] w fun e w' => e = .returned (.int .u32 (bits .andNot .u32 (bb : Int) (mm : Int))) ∧ Keep [] w w' := by
  go_enter Try.func56, Try.ntmps56
  go_wp2
  go_quiet (fail)
  go_wp2
  go_ret
  exact ⟨rfl, (Keep.refl _ _).drewN _⟩

end Go.Proofs.Ytgeakpeaohggoaa

/- Devices: what is read at a port; how far the next event is. -/
namespace Go.Proofs.Ytgeakpeaohggoaa
open Go.RowKit Go.Mum
set_option linter.unusedVariables false
set_option linter.unusedSimpArgs false
set_option maxRecDepth 100000

def inS (s : DS) (p : Int) : Int :=
  if p = 0 then firstS s.queue else if p = 1 then s.queue.length else if p = 2 then s.bk else if p = 3 then s.ad else if p = 4 then s.st else if p = 5 then s.mask
  else if p = 6 then s.bits else if p = 7 then (s.disk.length / 64 : Nat) else 0

theorem DvIn.made {w : World} {b : Nat} {s : DS} {q bl sc ou : Value} (h : DvIn w b s q bl sc ou) : w.cell? ⟨b, 10, none⟩ = some (.bool true) := cell_of h.cs 10 rfl

theorem _root_.Go.Mum.Buf.shape {w : World} {e : TypeId} {sz n : Nat} {v : Value} {xs : List Value} (h : Buf w e sz v n xs) : ∃ a c, v = .slice a n c ∧ n ≤ c ∧ c ≤ maxLen := by
  obtain ⟨_, a, c, h1, h2, h3, _⟩ := h
  exact ⟨a, c, h1, h2, h3⟩

set_option maxHeartbeats 1000000 in
theorem din_at {w : World} {b : Nat} {F : List Nat} {s : DS} (h : DvAt w b F s) (p : Int) :
    Calls Try.prog 13 #[.pointer (some ⟨b, 0, none⟩), .int .i64 p] w fun e w' => e = .returned (.int .u32 (inS s p)) ∧ w' = w := by
  obtain ⟨ok, q, bl, sc, ou, hi, rfl⟩ := h
  have C0 := Lib.hid (dnone_no hi.made)
  have C1 := Lib.hid (first_at ok.queue.1 (cell_of hi.cs 2 rfl) hi.hq)
  obtain ⟨qa, qc, rfl, _, _⟩ := hi.hq.shape
  obtain ⟨ba, bc, rfl, _, _⟩ := hi.hbl.shape
  have e0 : w.cell? ⟨b, 0, none⟩ = some (.int .u32 s.bits) := cell_of hi.cs 0 rfl
  have e1 : w.cell? ⟨b, 1, none⟩ = some (.int .u32 s.mask) := cell_of hi.cs 1 rfl
  have e2 : w.cell? ⟨b, 2, none⟩ = some (.slice qa s.queue.length qc) := cell_of hi.cs 2 rfl
  have e3 : w.cell? ⟨b, 3, none⟩ = some (.slice ba (s.disk.length / 64) bc) := cell_of hi.cs 3 rfl
  have e4 : w.cell? ⟨b, 4, none⟩ = some (.int .u32 s.bk) := cell_of hi.cs 4 rfl
  have e5 : w.cell? ⟨b, 5, none⟩ = some (.int .u32 s.ad) := cell_of hi.cs 5 rfl
  have e6 : w.cell? ⟨b, 6, none⟩ = some (.int .u32 s.st) := cell_of hi.cs 6 rfl
  have l1 : IntKind.u32.wrap (s.queue.length : Int) = (s.queue.length : Int) := by have := ok.queue.2; rw [IntKind.wrap_u32]; omega
  have hnb : s.disk.length / 64 ≤ 32 := by have := ok.disk.2.1; omega
  obtain ⟨nb, hnbe⟩ : ∃ nb, nb = s.disk.length / 64 := ⟨_, rfl⟩
  have l2 : IntKind.u32.wrap (nb : Int) = (nb : Int) := by rw [IntKind.wrap_u32]; omega
  rw [← hnbe] at e3
  obtain ⟨R, hR⟩ : ∃ R, R = inS s p := ⟨_, rfl⟩
  rw [← hR]
  unfold inS at hR
  rw [← hnbe] at hR
  have hc : p = 0 ∨ p = 1 ∨ p = 2 ∨ p = 3 ∨ p = 4 ∨ p = 5 ∨ p = 6 ∨ p = 7 ∨ ((p == 0) = false ∧ (p == 1) = false ∧ (p == 2) = false ∧ (p == 3) = false ∧ (p == 4) = false ∧ (p == 5) = false ∧ (p == 6) = false ∧ (p == 7) = false) := by
    simp only [beq_eq_false_iff_ne]; omega
  clear hi ok hnbe hnb
  rcases hc with rfl | rfl | rfl | rfl | rfl | rfl | rfl | rfl | ⟨p0, p1, p2, p3, p4, p5, p6, p7⟩
  all_goals
    go_enter Try.func13, Try.ntmps13
    go_wp2_with (first | (go_at_call 37; refine C0.out.mono ?_; rintro e w' ⟨rfl, rfl⟩) | (go_at_call 44; refine C1.out.mono ?_; rintro e w' ⟨rfl, rfl⟩))
    go_ret
    first
      | (rw [hR]; simp [l1, l2]; done)
      | (simp only [beq_eq_false_iff_ne] at p0 p1 p2 p3 p4 p5 p6 p7; rw [hR]; simp [p0, p1, p2, p3, p4, p5, p6, p7]; done)

/-- How far the next event is. -/
def nextS (s : DS) (step : Int) : Int × Bool := match s.script with | [] => (0, false) | e :: _ => (max 0 (e.at' - max step 0), true)

theorem dnext_at {w : World} {b : Nat} {F : List Nat} {s : DS} (h : DvAt w b F s) (p : Int) (hp : -9223372036854775808 ≤ p ∧ p ≤ 9223372036854775807) :
    Calls Try.prog 16 #[.pointer (some ⟨b, 0, none⟩), .int .i64 p] w fun e w' => e = .returned (.tuple #[.int .i64 (nextS s p).1, .bool (nextS s p).2]) ∧ w' = w := by
  obtain ⟨ok, q, bl, sc, ou, hi, rfl⟩ := h
  have C0 := Lib.hid (dnone_no hi.made)
  have e11 : w.cell? ⟨b, 11, none⟩ = some sc := cell_of hi.cs 11 rfl
  have hS := hi.hsc
  obtain ⟨R, hR⟩ : ∃ R, R = nextS s p := ⟨_, rfl⟩
  rw [← hR]
  unfold nextS at hR
  have hev := ok.script.1
  clear hi ok
  cases hs : s.script with
  | nil =>
    rw [hs] at hS hR
    obtain ⟨a, c, rfl, _, _⟩ := hS.shape
    clear hS hev hs
    simp only [List.length_nil] at e11
    subst hR
    go_enter Try.func16, Try.ntmps16
    go_wp2_with (go_at_call 37; refine C0.out.mono ?_; rintro e w' ⟨rfl, rfl⟩)
    go_ret2
    exact ⟨rfl, rfl⟩
  | cons ev l =>
    rw [hs] at hS hR hev
    obtain ⟨⟨k0, k1, k2, k3, _⟩, _⟩ := hev ev (by simp)
    obtain ⟨g, off, c, rfl, hle, hcs⟩ := hS.cells (by simp)
    have hz := hcs 0 (.int .i64 ev.at') (by simp [evsC, evC])
    rw [Nat.add_zero] at hz
    have hn : ((l.length : Int) + 1 == 0) = false := by simp; omega
    simp only [List.length_cons] at e11 hle
    clear hS hcs hev hs
    have m1 : max p 0 = p ∨ max p 0 = 0 := by omega
    have w1 : IntKind.i64.wrap (ev.at' - max p 0) = ev.at' - max p 0 := by rw [IntKind.wrap_i64]; omega
    go_enter Try.func16, Try.ntmps16
    go_wp2_with (go_at_call 37; refine C0.out.mono ?_; rintro e w' ⟨rfl, rfl⟩)
    all_goals
      go_ret2
      subst hR
      refine ⟨?_, rfl⟩
      simp
      try omega

end Go.Proofs.Ytgeakpeaohggoaa

/- Devices: a byte is typed. -/
namespace Go.Proofs.Ytgeakpeaohggoaa
open Go.RowKit Go.Mum
set_option linter.unusedVariables false
set_option linter.unusedSimpArgs false
set_option maxRecDepth 100000

theorem info_u8b : (Try.prog.info? 5).map (fun i => (i.zero, i.size, i.bytes)) = some (some (.int .u8 0), 1, 1) := by kernel_rfl

def pressS (s : DS) (z : Int) : DS := { s with bits := s.bits ||| 2, queue := if s.queue.length < 32 then s.queue ++ [z] else s.queue }

theorem or_lt8 (x y : Nat) (hx : x < 8) (hy : y < 8) : x ||| y < 8 := Nat.or_lt_two_pow (n := 3) hx hy

/-- Cells of b turn, all else stays. -/
theorem DvIn.turn {w x : World} {b : Nat} {s s' : DS} {q bl sc ou : Value} (h : DvIn w b s q bl sc ou) (hk : Keep [b] w x) (hx : x.heap[b]? = some (.cells (dvC s' q bl sc ou) 74 (0, 0)))
    (h1 : s'.queue = s.queue) (h2 : s'.disk = s.disk) (h3 : s'.script = s.script) (h4 : s'.out = s.out) : DvIn x b s' q bl sc ou := by
  have g := fun (j : Nat) (hj : j < 4) (hj' : j + 1 < 5) k hk (hb : k ∈ [b]) => h.nodup.get (i := j + 1) (j := 0) hj' (by simp) (by omega) k hk hb
  refine ⟨hx, ?_, ?_, ?_, ?_, h.nodup⟩
  · rw [h1]; exact h.hq.keep hk (fun k hk => g 0 (by omega) (by omega) k hk)
  · rw [h2]; exact h.hbl.keep hk (fun k hk => g 1 (by omega) (by omega) k hk)
  · rw [h3]; exact h.hsc.keep hk (fun k hk => g 2 (by omega) (by omega) k hk)
  · rw [h4]; exact h.hou.keep hk (fun k hk => g 3 (by omega) (by omega) k hk)

/-- The queue turns, and cells of b. -/
theorem DvIn.turnQ {w x : World} {b : Nat} {s s' : DS} {q q' bl sc ou : Value} (h : DvIn w b s q bl sc ou) (hk : Keep (b :: blk q) w x) (hx : x.heap[b]? = some (.cells (dvC s' q' bl sc ou) 74 (0, 0)))
    (hq : Buf x 5 1 q' s'.queue.length (u8s s'.queue)) (hb : ∀ k ∈ blk q', k ∈ blk q ∨ w.heap.size ≤ k) (h2 : s'.disk = s.disk) (h3 : s'.script = s.script) (h4 : s'.out = s.out) : DvIn x b s' q' bl sc ou := by
  have g := fun (j : Nat) (hj : j + 2 < 5) k hk (hb : k ∈ b :: blk q) => (List.mem_cons.1 hb).elim (fun e => h.nodup.get (i := j + 2) (j := 0) hj (by simp) (by omega) k hk (by simp [e])) (fun hb => h.nodup.get (i := j + 2) (j := 1) hj (by simp) (by omega) k hk hb)
  refine ⟨hx, hq, ?_, ?_, ?_, h.nodup.set w.heap.size 1 h.lt (blk q') (by simp) hb⟩
  · rw [h2]; exact h.hbl.keep hk (g 0 (by omega))
  · rw [h3]; exact h.hsc.keep hk (g 1 (by omega))
  · rw [h4]; exact h.hou.keep hk (g 2 (by omega))

theorem DvIn.to {w x : World} {b : Nat} {s s' : DS} {q bl sc ou : Value} (h : DvIn w b s q bl sc ou) (ok : s'.Ok) (hk : Keep [b] w x) (hx : x.heap[b]? = some (.cells (dvC s' q bl sc ou) 74 (0, 0)))
    (h1 : s'.queue = s.queue) (h2 : s'.disk = s.disk) (h3 : s'.script = s.script) (h4 : s'.out = s.out) : DvTo b (b :: (blk q ++ blk bl ++ blk sc ++ blk ou)) s' w x :=
  ⟨_, ⟨ok, _, _, _, _, h.turn hk hx h1 h2 h3 h4, rfl⟩, hk.weaken (fun k hk _ => by simp at hk; simp [hk]), fun k hk => .inl hk⟩

theorem DvIn.toQ {w x : World} {b : Nat} {s s' : DS} {q q' bl sc ou : Value} (h : DvIn w b s q bl sc ou) (ok : s'.Ok) (hk : Keep (b :: blk q) w x) (hx : x.heap[b]? = some (.cells (dvC s' q' bl sc ou) 74 (0, 0)))
    (hq : Buf x 5 1 q' s'.queue.length (u8s s'.queue)) (hb : ∀ k ∈ blk q', k ∈ blk q ∨ w.heap.size ≤ k) (h2 : s'.disk = s.disk) (h3 : s'.script = s.script) (h4 : s'.out = s.out) :
    DvTo b (b :: (blk q ++ blk bl ++ blk sc ++ blk ou)) s' w x := by
  refine ⟨_, ⟨ok, _, _, _, _, h.turnQ hk hx hq hb h2 h3 h4, rfl⟩, hk.weaken (fun k hk _ => ?_), fun k hk => ?_⟩
  · simp only [List.mem_cons, List.mem_append] at hk ⊢
    exact hk.imp id (fun h => .inl (.inl (.inl h)))
  · simp only [List.mem_cons, List.mem_append] at hk ⊢
    rcases hk with hk | ((hk | hk) | hk) | hk
    · exact .inl (.inl hk)
    · exact (hb k hk).imp (fun h => .inr (.inl (.inl (.inl h)))) id
    · exact .inl (.inr (.inl (.inl (.inr hk))))
    · exact .inl (.inr (.inl (.inr hk)))
    · exact .inl (.inr (.inr hk))

theorem DvIn.b_q {w : World} {b : Nat} {s : DS} {q bl sc ou : Value} (h : DvIn w b s q bl sc ou) : b ∉ blk q := h.nodup.get (i := 0) (j := 1) (by simp) (by simp) (by omega) b (by simp)

set_option maxHeartbeats 1000000 in
theorem press_at {w : World} {b : Nat} {F : List Nat} {s : DS} (h : DvAt w b F s) (z : Int) (hz : 0 ≤ z ∧ z < 256) :
    Calls Try.prog 39 #[.pointer (some ⟨b, 0, none⟩), .int .u8 z] w fun e w' => (∃ v, e = .returned v) ∧ DvTo b F (pressS s z) w w' := by
  obtain ⟨ok, q, bl, sc, ou, hi, rfl⟩ := h
  have o1 : bits .or .u32 (s.bits : Int) 2 = ((s.bits ||| 2 : Nat) : Int) := or_u32 s.bits 2 (by have := ok.bits; omega) (by omega)
  have e0 : w.cell? ⟨b, 0, none⟩ = some (.int .u32 s.bits) := cell_of hi.cs 0 rfl
  have f0 : ∀ i, w.frozen? ⟨b, i, none⟩ = false := frozen_of hi.cs
  have hB := lt_of_heap hi.cs
  obtain ⟨qa, qc, rfl, hq1, hq2⟩ := hi.hq.shape
  have e2 : w.cell? ⟨b, 2, none⟩ = some (.slice qa s.queue.length qc) := cell_of hi.cs 2 rfl
  obtain ⟨i0, hif, hz0, hz1, hz2⟩ := info_parts info_u8b
  have ok' : (pressS s z).Ok := by
    refine ⟨or_lt8 _ _ ok.bits (by omega), ok.mask, ?_, ok.disk, ok.bk, ok.ad, ok.st, ok.kd, ok.fr, ok.to, ok.script, ok.out⟩
    simp only [pressS]
    split
    · refine ⟨isBytes_append ok.queue.1 (fun x hx => by simp at hx; subst hx; exact hz), by simp; omega⟩
    · exact ok.queue
  have OK := Lib.hid (And.intro ok ok')
  by_cases hl : s.queue.length < 32
  · have hlt : decide ((s.queue.length : Int) < 32) = true := by simp; omega
    have g1 := heap_set_same hi.cs 0 (.int .u32 ((s.bits ||| 2 : Nat) : Int))
    have HI := Lib.hid hi
    have G1 := Lib.hid g1
    have k1 : Keep [b] w (w.setCell ⟨b, 0, none⟩ (.int .u32 ((s.bits ||| 2 : Nat) : Int))) := (Keep.refl _ _).setCell (.inl (by simp)) _
    have B1 := Lib.hid ((hi.hq.keep k1 (fun k hk hb => hi.b_q (by simp at hb; subst hb; exact hk))).keep0 ((Keep.refl [] _).alloc (.cells #[.int .u8 z] 5)))
    have hne := hi.b_q
    clear hi ok ok' g1 k1
    go_enter Try.func39, Try.ntmps39
    go_wp2_with (at_builtin; go_loud (refine wpList_append_buf rfl _ _ 22 rfl 5 1 i0 (.int .u8 0) 1 Try.underlying22 hif hz0 hz1 hz2 (.slice qa s.queue.length qc) _ _ rfl B1.out _ 1 [.int .u8 z] rfl (Src.ofSlice _ Try.underlying22 ⟨w.heap.size, 0, none⟩ 1 1 [.int .u8 z] rfl (World.news_of_block (cs := #[.int .u8 z]) (heap_alloc_at _ (by simp))) (by simp [Value.oneCell'])) rfl (by unfold maxLen; omega) (by omega) ?_); intro v' w1 hb1 hk1 hs1; obtain ⟨va, vc, rfl, _, _⟩ := hb1.shape; have h1 := hk1.heap (heap_alloc_other _ G1.out) hne; have c1 : w1.cell? ⟨b, 2, none⟩ = some (.slice qa s.queue.length qc) := cell_of h1 2 rfl; have z1 := frozen_of h1 2; have H1 := Lib.hid (And.intro h1 (And.intro hb1 (And.intro hk1 hs1))); clear h1 hb1 hk1 hs1)
    go_end0
    obtain ⟨h1, hb1, hk1, hs1⟩ := H1.out
    have hi := HI.out
    have e : (pressS s z).queue = s.queue ++ [z] := by simp [pressS, hl]
    have kA : Keep (b :: blk (.slice qa s.queue.length qc)) w w1 := (((Keep.refl _ _).setCell (.inl (by simp)) _).alloc _).trans (hk1.weaken (fun k hk _ => by simp [hk]))
    have kB := kA.setCell (p := ⟨b, 2, none⟩) (.inl (by simp)) (.slice va (s.queue.length + 1) vc)
    have hs2 : ∀ k ∈ blk (.slice va (s.queue.length + 1) vc), k ∈ blk (.slice qa s.queue.length qc) ∨ w.heap.size ≤ k := fun k hk => (hs1 k hk).imp id (fun h => by simp at h; omega)
    refine ⟨⟨_, rfl⟩, hi.toQ OK.out.2 kB (heap_set_same h1 2 _) ?_ hs2 rfl rfl rfl⟩
    rw [e, u8s_append, List.length_append]
    refine Buf.keep hb1 ((Keep.refl [b] _).setCell (.inl (by simp)) _) (fun k hk hb => ?_)
    simp at hb
    subst hb
    rcases hs2 k hk with h2 | h2
    · exact hne h2
    · omega
  · have hlt : decide ((s.queue.length : Int) < 32) = false := by simp; omega
    have g1 := heap_set_same hi.cs 0 (.int .u32 ((s.bits ||| 2 : Nat) : Int))
    have HI := Lib.hid hi
    have G1 := Lib.hid g1
    clear hi ok ok' g1
    go_enter Try.func39, Try.ntmps39
    go_wp2
    go_end0
    have hi := HI.out
    have e : (pressS s z).queue = s.queue := by simp [pressS, hl]
    exact ⟨⟨_, rfl⟩, hi.to OK.out.2 ((Keep.refl _ _).setCell (.inl (by simp)) _) G1.out e rfl rfl rfl⟩

end Go.Proofs.Ytgeakpeaohggoaa
