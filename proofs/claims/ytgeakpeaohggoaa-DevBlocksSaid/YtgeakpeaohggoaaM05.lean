/- Contracts of the functions that the law reaches, walked, and the plain laws on them (several texts in one). -/
import Derived.Test.YtgeakpeaohggoaaRows
import Derived.WalkMore
import Derived.IntWalk
import Derived.Test.YtgeakpeaohggoaaM04

/- The calls of the package ram that only read, one by one. -/
namespace Go.Proofs.Ytgeakpeaohggoaa
open Go.RowKit Go.Mum

/-- A memory: its head in block r, its rows in block fb, its bytes L in block g; frame k begins at cell 64 * ks[k]. -/
structure RamAt (w : World) (r fb g : Nat) (ks : List Nat) (L : List Int) : Prop where
  head : ∃ cap, w.heap[r]? = some (.cells #[.slice (some ⟨fb, 0, none⟩) ks.length cap] 109 (0, 0)) ∧ ks.length ≤ cap ∧ cap ≤ maxLen
  rows : ∃ cs, w.heap[fb]? = some (.cells cs 22 (0, 0)) ∧ ∀ k, k < ks.length → cs[k]? = some (.slice (some ⟨g, 64 * ks.getD k 0, none⟩) 64 64)
  data : w.heap[g]? = some (.cells (u8s L).toArray 5 (0, 0))
  bytes : IsBytes L
  fits : ∀ k, k < ks.length → 64 * ks.getD k 0 + 64 ≤ L.length
  size : 1 ≤ ks.length ∧ ks.length ≤ 512

/-- Where in the block the byte at an address lies. -/
def pl (ks : List Nat) (a : Nat) : Nat := 64 * ks.getD (a / 64) 0 + a % 64

section
variable {w x : World} {r fb g : Nat} {ks : List Nat} {L : List Int}

theorem RamAt.keep {l : List Nat} (h : RamAt w r fb g ks L) (hk : Keep l w x) (h1 : r ∉ l) (h2 : fb ∉ l) (h3 : g ∉ l) : RamAt x r fb g ks L := by
  obtain ⟨⟨cap, a1, a2⟩, ⟨cs, b1, b2⟩, c, d1, d2, d3⟩ := h
  exact ⟨⟨cap, hk.heap a1 h1, a2⟩, ⟨cs, hk.heap b1 h2, b2⟩, hk.heap c h3, d1, d2, d3⟩

theorem RamAt.keep0 (h : RamAt w r fb g ks L) (hk : Keep [] w x) : RamAt x r fb g ks L := h.keep hk (by simp) (by simp) (by simp)

theorem RamAt.ne (h : RamAt w r fb g ks L) : r ≠ fb ∧ r ≠ g ∧ fb ≠ g := by
  obtain ⟨⟨cap, a1, _⟩, ⟨cs, b1, _⟩, c, _⟩ := h
  refine ⟨?_, ?_, ?_⟩
  · rintro rfl; rw [a1] at b1; simp at b1
  · rintro rfl; rw [a1] at c; simp at c
  · rintro rfl; rw [b1] at c; simp at c

theorem RamAt.lt (h : RamAt w r fb g ks L) : r < w.heap.size ∧ fb < w.heap.size ∧ g < w.heap.size := by
  obtain ⟨⟨cap, a1, _⟩, ⟨cs, b1, _⟩, c, _⟩ := h
  exact ⟨lt_of_heap a1, lt_of_heap b1, lt_of_heap c⟩

theorem RamAt.hcell (h : RamAt w r fb g ks L) : ∃ cap, w.cell? ⟨r, 0, none⟩ = some (.slice (some ⟨fb, 0, none⟩) ks.length cap) := by
  obtain ⟨⟨cap, a1, _⟩, _⟩ := h
  exact ⟨cap, cell_of a1 0 rfl⟩

theorem RamAt.row (h : RamAt w r fb g ks L) {k : Nat} (hk : k < ks.length) : w.cell? ⟨fb, k, none⟩ = some (.slice (some ⟨g, 64 * ks.getD k 0, none⟩) 64 64) := by
  obtain ⟨_, ⟨cs, b1, b2⟩, _⟩ := h
  exact cell_of b1 k (b2 k hk)

theorem RamAt.cell (h : RamAt w r fb g ks L) {j : Nat} (hj : j < L.length) : w.cell? ⟨g, j, none⟩ = some (.int .u8 (L.getD j 0)) :=
  cell_of h.data j (by simp [u8s, List.getElem?_eq_getElem hj, List.getD])

theorem RamAt.frozen (h : RamAt w r fb g ks L) (j : Nat) : w.frozen? ⟨g, j, none⟩ = false := frozen_of h.data j

theorem RamAt.byte (h : RamAt w r fb g ks L) {j : Nat} (hj : j < L.length) : 0 ≤ L.getD j 0 ∧ L.getD j 0 < 256 :=
  h.bytes _ (by simp [List.getD, List.getElem?_eq_getElem hj])

theorem RamAt.pl_lt (h : RamAt w r fb g ks L) {a : Nat} (ha : a < 64 * ks.length) : 64 * ks.getD (a / 64) 0 + 64 ≤ L.length ∧ pl ks a < L.length := by
  have := h.fits (a / 64) (by omega)
  unfold pl
  omega
end

/-- A receiver with so many frames: one that is not there, or that no call made, has none. -/
def Sz (w : World) (v : Value) (n : Nat) : Prop :=
  (v = .pointer none ∧ n = 0) ∨ ∃ r a c, v = .pointer (some ⟨r, 0, none⟩) ∧ w.cell? ⟨r, 0, none⟩ = some (.slice a n c) ∧ n ≤ 512

theorem ret_bool {p q : Bool} (h : p = q) : Ending.returned (.bool p) = .returned (.bool q) := by rw [h]

theorem RamAt.sz {w : World} {r fb g : Nat} {ks : List Nat} {L : List Int} (h : RamAt w r fb g ks L) : Sz w (.pointer (some ⟨r, 0, none⟩)) ks.length := by
  obtain ⟨cap, hc⟩ := h.hcell
  exact .inr ⟨r, _, cap, rfl, hc, h.size.2⟩

theorem Sz.le {w : World} {v : Value} {n : Nat} (h : Sz w v n) : n ≤ 512 := by
  rcases h with ⟨_, rfl⟩ | ⟨_, _, _, _, _, h⟩
  · omega
  · exact h

set_option maxHeartbeats 400000 in
theorem rsize_any {w : World} {v : Value} {n : Nat} (h : Sz w v n) :
    Calls Try.prog 54 #[v] w fun e w' => e = .returned (.int .u32 (64 * (n : Int))) ∧ w = w' := by
  rcases h with ⟨rfl, rfl⟩ | ⟨r, a, c, rfl, hc, hn⟩
  · go_enter Try.func54, Try.ntmps54
    go_wp2
    go_ret
    exact ⟨rfl, rfl⟩
  · have he : (n : Int) * 64 = 64 * (n : Int) := by omega
    go_enter Try.func54, Try.ntmps54
    go_wp2
    go_ret
    exact ⟨rfl, rfl⟩

set_option maxHeartbeats 1000000 in
theorem rwithin_any {w : World} {v : Value} {n : Nat} (h : Sz w v n) (a m al : Nat) (ha : a < 4294967296) (hm : m ≤ 9223372036854775807) (hal : al = 1 ∨ al = 4) :
    Calls Try.prog 70 #[v, .int .u32 a, .int .i64 m, .int .i64 al] w fun e w' => e = .returned (.bool (decide (a % al = 0 ∧ a + m ≤ 64 * n))) ∧ w = w' := by
  have C := Lib.hid (rsize_any h)
  have hn := h.le
  clear h
  have h0 : al ≠ 0 := by omega
  have hr : ((a : Int).tmod (al : Int)) = ((a % al : Nat) : Int) := by rw [Int.tmod_eq_emod_of_nonneg (by omega)]; simp
  have hrl : a % al < 4 := by have := Nat.mod_lt a (show 0 < al by omega); omega
  generalize a % al = q at hr hrl
  by_cases hq : q = 0
  · subst hq
    by_cases h1 : m ≤ 64 * n
    · have h1' : (m : Int) ≤ 64 * (n : Int) := by omega
      clear h1 hrl
      go_enter Try.func70, Try.ntmps70
      go_wp2_with fail
      refine C.out.mono ?_
      rintro e w' ⟨rfl, rfl⟩
      go_wp2_with fail
      refine C.out.mono ?_
      rintro e w' ⟨rfl, rfl⟩
      go_wp2_with fail
      go_ret
      exact ⟨ret_bool (decide_eq_decide.2 (by rw [true_and]; omega)), rfl⟩
    · rw [decide_eq_false (p := 0 = 0 ∧ a + m ≤ 64 * n) (by omega)]
      have h1' : ¬ ((m : Int) ≤ 64 * (n : Int)) := by omega
      clear h1 hrl
      go_enter Try.func70, Try.ntmps70
      go_wp2_with fail
      refine C.out.mono ?_
      rintro e w' ⟨rfl, rfl⟩
      go_wp2_with fail
      go_ret
      exact ⟨rfl, rfl⟩
  · rw [decide_eq_false (p := q = 0 ∧ a + m ≤ 64 * n) (by omega)]
    have hq' : ((q : Int) == 0) = false := by simp [hq]
    clear hq hrl
    go_enter Try.func70, Try.ntmps70
    go_wp2_with fail
    go_ret
    exact ⟨rfl, rfl⟩

theorem size_u8 (w : World) : (Go.sizeOf 5).run Try.prog w = .ok 1 w := by kernel_rfl

set_option maxHeartbeats 400000 in
theorem rat_at {w : World} {r fb g : Nat} {ks : List Nat} {L : List Int} (h : RamAt w r fb g ks L) (a : Nat) (ha : a < 64 * ks.length) :
    Calls Try.prog 71 #[.pointer (some ⟨r, 0, none⟩), .int .u32 a] w fun e w' => e = .returned (.slice (some ⟨g, pl ks a, none⟩) (64 - a % 64) (64 - a % 64)) ∧ w = w' := by
  obtain ⟨cap, hc⟩ := h.hcell
  have hrow := h.row (k := a / 64) (by omega)
  have hs := h.size
  have hd : ((a : Int) / 64) = ((a / 64 : Nat) : Int) := by omega
  have hm : ((a : Int) % 64) = ((a % 64 : Nat) : Int) := by omega
  have hlt : ((a / 64 : Nat) : Int) < (ks.length : Int) := by omega
  have hm4 : a % 64 < 64 := by omega
  have hp : pl ks a = 64 * ks.getD (a / 64) 0 + a % 64 := rfl
  rw [hp]
  clear h hp ha
  generalize ks.getD (a / 64) 0 = f at *
  generalize a / 64 = i at *
  generalize a % 64 = j at *
  have hj : (j : Int) ≤ 64 := by omega
  have hne : ¬ (64 = j) := by omega
  go_enter Try.func71, Try.ntmps71
  go_wp2
  go_ret
  exact ⟨rfl, rfl⟩

/-- The byte at an address. -/
def byteAt (ks : List Nat) (L : List Int) (a : Nat) : Int := if a < 64 * ks.length then L.getD (pl ks a) 0 else 0

end Go.Proofs.Ytgeakpeaohggoaa

/- Devices: the disk's command fails; the events come where there is no memory. -/
namespace Go.Proofs.Ytgeakpeaohggoaa
open Go.RowKit Go.Mum Go.Shelf
set_option linter.unusedVariables false
set_option linter.unusedSimpArgs false
set_option maxRecDepth 100000

theorem Sz.keep {w x : World} {v : Value} {n : Nat} (h : Sz w v n) (hk : Keep [] w x) : Sz x v n :=
  h.imp id fun ⟨r, a, c, e, hc, hn⟩ => ⟨r, a, c, e, hk.cell hc (by simp), hn⟩

def goodN (s : DS) (n : Nat) : Prop := s.fr < s.disk.length / 64 ∧ s.to % 64 = 0 ∧ s.to < 64 * n

set_option maxHeartbeats 2000000 in
theorem done_no {w : World} {b : Nat} {F : List Nat} {s : DS} (h : DvAt w b F s) {v : Value} {n : Nat} (hz : Sz w v n) (hbad : ¬ goodN s n) :
    Calls Try.prog 41 #[.pointer (some ⟨b, 3, none⟩), v] w fun e w' => e = .returned (.tuple #[.int .i64 0, .bool false]) ∧ DvTo b F { s with st := 2 } w w' := by
  obtain ⟨ok, q, bl, sc, ou, hi, rfl⟩ := h
  obtain ⟨ba, bc, rfl, hb1, hb2⟩ := hi.hbl.shape
  obtain ⟨nb, hnbe⟩ : ∃ nb, nb = s.disk.length / 64 := ⟨_, rfl⟩
  have hnb : nb ≤ 32 := by have := ok.disk.2.1; omega
  have e3 : w.cell? ⟨b, 3, none⟩ = some (.slice ba nb bc) := by rw [hnbe]; exact cell_of hi.cs 3 rfl
  have e6 : w.cell? ⟨b, 6, none⟩ = some (.int .u32 s.st) := cell_of hi.cs 6 rfl
  have e7 : w.cell? ⟨b, 7, none⟩ = some (.int .u32 s.kd) := cell_of hi.cs 7 rfl
  have e8 : w.cell? ⟨b, 8, none⟩ = some (.int .u32 s.fr) := cell_of hi.cs 8 rfl
  have e9 : w.cell? ⟨b, 9, none⟩ = some (.int .u32 s.to) := cell_of hi.cs 9 rfl
  have fz := frozen_of hi.cs
  have l2 : IntKind.u32.wrap (nb : Int) = (nb : Int) := by rw [IntKind.wrap_u32]; omega
  have hto := ok.to
  have m2 : IntKind.u32.wrap ((s.to : Int).tmod 64) = (s.to : Int) % 64 := by rw [Int.tmod_eq_emod_of_nonneg (by omega), IntKind.wrap_u32]; omega
  have hn := hz.le
  have ok' : ({ s with st := 2 } : DS).Ok := ⟨ok.bits, ok.mask, ok.queue, ok.disk, ok.bk, ok.ad, Nat.le_refl _, ok.kd, ok.fr, ok.to, ok.script, ok.out⟩
  have HI := Lib.hid (And.intro hi ok')
  have Z := Lib.hid (fun x (hk : Keep [] w x) => rsize_any (hz.keep hk))
  unfold goodN at hbad
  rw [← hnbe] at hbad
  clear hi ok ok' hz hnbe
  have hB := HI.out.1.cs
  have hlt := lt_of_heap hB
  have HB := Lib.hid (And.intro hB hlt)
  have ho : ∀ o : Obj, (w.alloc o).cell? ⟨b, 3, none⟩ = some (.slice ba nb bc) := fun o => ((Keep.refl [] w).alloc o).cell e3 (by simp)
  clear hB
  have fin : ∀ x : World, Keep [] w x → DvTo b (b :: (blk q ++ blk (.slice ba (s.disk.length / 64) bc) ++ blk sc ++ blk ou)) { s with st := 2 } w (x.setCell ⟨b, 6, none⟩ (.int .u32 2)) := fun x hx => by
    refine HI.out.1.to HI.out.2 ((hx.weaken (fun k hk => by cases hk)).setCell (.inl (by simp)) _) ?_ rfl rfl rfl rfl
    have := heap_set_same (hx.heap HB.out.1 (by simp)) 6 (.int .u32 2)
    exact this
  have FIN := Lib.hid fin
  clear fin
  by_cases t1 : nb ≤ s.fr
  · have T1 : decide ((nb : Int) ≤ (s.fr : Int)) = true := decide_eq_true (by omega)
    go_enter Try.func41, Try.ntmps41
    go_wp2
    go_quiet (fail)
    go_wp2
    go_ret2
    exact ⟨rfl, FIN.out _ (((Keep.refl _ _).alloc _).drewN _)⟩
  · have T1 : decide ((nb : Int) ≤ (s.fr : Int)) = false := decide_eq_false (by omega)
    have td : (s.to : Int).tmod 64 = (s.to : Int) % 64 := Int.tmod_eq_emod_of_nonneg (by omega)
    by_cases t2 : s.to % 64 = 0
    · have T2 : ((s.to : Int) % 64 != 0) = false := by simp; omega
      have T2' : ((s.to : Int) % 64 == 0) = true := by simp; omega
      have T3 : decide (64 * (n : Int) ≤ (s.to : Int)) = true := decide_eq_true (by omega)
      have Z1 := fun o k => Z.out _ (((Keep.refl [] w).alloc o).drewN k)
      go_enter Try.func41, Try.ntmps41
      go_wp2
      go_quiet ((go_at_call 54; exact quiet_same (Z1 _ _)))
      go_wp2
      go_ret2
      exact ⟨rfl, FIN.out _ (((Keep.refl _ _).alloc _).drewN _)⟩
    · have T2 : ((s.to : Int) % 64 != 0) = true := by simp; omega
      have T2' : ((s.to : Int) % 64 == 0) = false := by simp; omega
      go_enter Try.func41, Try.ntmps41
      go_wp2
      go_quiet (fail)
      go_wp2
      go_ret2
      exact ⟨rfl, FIN.out _ (((Keep.refl _ _).alloc _).drewN _)⟩

end Go.Proofs.Ytgeakpeaohggoaa

/- Devices: the events come where there is no memory. -/
namespace Go.Proofs.Ytgeakpeaohggoaa
open Go.RowKit Go.Mum Go.Shelf
set_option linter.unusedVariables false
set_option linter.unusedSimpArgs false
set_option maxRecDepth 100000

attribute [local go_sem] Oper.semAt_some

/-- What an event does where there is no memory. -/
def come1 (s : DS) (e : Ev) : DS :=
  if e.kd = 0 then { s with bits := s.bits ||| 1 } else if e.kd = 1 then pressS s e.by' else if s.st = 1 then { s with st := 2, bits := s.bits ||| 4 } else s

def comeK (s : DS) (k : Nat) : DS := { (s.script.take k).foldl come1 s with script := s.script.drop k }

theorem due_at (b : Nat) (step : Int) (w : World) :
    Calls Try.prog 38 #[.pointer (some ⟨b, 0, none⟩), .int .i64 step] w fun e w' => e = .returned (.func (.func 65) #[] #[.pointer (some ⟨w.heap.size, 0, none⟩), .pointer (some ⟨w.heap.size + 1, 0, none⟩)]) ∧ w' = (w.alloc (.cells #[.pointer (some ⟨b, 0, none⟩)] 26)).alloc (.cells #[.int .i64 step] 3) := by
  go_enter Try.func38, Try.ntmps38
  go_wp2
  go_ret
  exact ⟨rfl, rfl⟩

theorem isCells_of {w : World} {k : Nat} {cs : Array Value} {t : TypeId} {z : Nat × Nat} (h : w.heap[k]? = some (.cells cs t z)) : ∀ o, w.heap[k]? = some o → o.isCells = true := fun o ho => by rw [h] at ho; cases ho; rfl

theorem Buf.cellsB {w : World} {e : TypeId} {sz n : Nat} {v : Value} {xs : List Value} (h : Buf w e sz v n xs) : ∀ k ∈ blk v, ∀ o, w.heap[k]? = some o → o.isCells = true := by
  obtain ⟨hl, a, c, rfl, h1, h2, h3⟩ := h
  intro k hk
  rcases h3 with rfl | ⟨g, off, cur, rfl, hg, h4, h5⟩
  · cases a <;> simp [blk] at hk
  · by_cases hc : c = 0
    · simp [blk, hc] at hk
    · simp [blk, hc] at hk; subst hk; exact isCells_of hg

theorem DvAt.cellsB {w : World} {b : Nat} {F : List Nat} {s : DS} (h : DvAt w b F s) : ∀ k ∈ F, ∀ o, w.heap[k]? = some o → o.isCells = true := by
  obtain ⟨ok, q, bl, sc, ou, hi, rfl⟩ := h
  intro k hk
  simp only [List.mem_cons, List.mem_append] at hk
  rcases hk with rfl | ((hk | hk) | hk) | hk
  · exact isCells_of hi.cs
  · exact Buf.cellsB hi.hq k hk
  · exact Buf.cellsB hi.hbl k hk
  · exact Buf.cellsB hi.hsc k hk
  · exact Buf.cellsB hi.hou k hk

/-- Between two rounds. -/
structure ComeI (b : Nat) (F : List Nat) (step : Int) (L : List Ev) (w : World) (k : Nat) (sk : DS) (W : World) (F' : List Nat) (lv : Value) : Prop where
  dv : DvAt W b F' sk
  keep : Keep F w W
  fr : ∀ j ∈ F', j ∈ F ∨ w.heap.size + 6 ≤ j
  c0 : W.heap[w.heap.size]? = some (.cells #[.pointer (some ⟨b, 0, none⟩)] 26 (0, 0))
  c1 : W.heap[w.heap.size + 1]? = some (.cells #[.pointer none] 53 (0, 0))
  c2 : W.heap[w.heap.size + 2]? = some (.cells #[lv] 23 (0, 0))
  c3 : W.heap[w.heap.size + 3]? = some (.cells #[.slice none 0 0] 30 (0, 0))
  c4 : W.heap[w.heap.size + 4]? = some (.cells #[.pointer (some ⟨b, 0, none⟩)] 26 (0, 0))
  c5 : W.heap[w.heap.size + 5]? = some (.cells #[.int .i64 step] 3 (0, 0))
  hlv : Buf W 25 3 lv k (evsC ((L.take k).map (lateE · step)))
  lf : ∀ j ∈ blk lv, w.heap.size + 6 ≤ j ∧ j ∉ F'

theorem ComeI.move {b : Nat} {F : List Nat} {step : Int} {L : List Ev} {w : World} {k : Nat} {sk sk' : DS} {W x : World} {F' F'' : List Nat} {lv : Value} {l : List Nat} (h : ComeI b F step L w k sk W F' lv) (hF : ∀ j ∈ F, j < w.heap.size) (hk : Keep l W x)
    (hl : ∀ j ∈ l, j ∈ F' ∨ w.heap.size + 6 ≤ j) (hlv : ∀ j ∈ blk lv, j ∉ l) (hd : DvAt x b F'' sk') (hF' : ∀ j ∈ F'', j ∈ F' ∨ W.heap.size ≤ j) : ComeI b F step L w k sk' x F'' lv := by
  have hs := h.keep.size
  have h6 : w.heap.size + 6 ≤ W.heap.size := lt_of_heap h.c5
  have hb : ∀ i, i < 6 → w.heap.size + i ∉ l := fun i hi hm => by
    rcases hl _ hm with h1 | h1
    · rcases h.fr _ h1 with h2 | h2
      · have := hF _ h2; omega
      · omega
    · omega
  refine ⟨hd, h.keep.then hk (fun j hj hlt => ?_), fun j hj => ?_, hk.heap h.c0 (hb 0 (by omega)), hk.heap h.c1 (hb 1 (by omega)), hk.heap h.c2 (hb 2 (by omega)), hk.heap h.c3 (hb 3 (by omega)), hk.heap h.c4 (hb 4 (by omega)), hk.heap h.c5 (hb 5 (by omega)), h.hlv.keep hk hlv, fun j hj => ⟨(h.lf j hj).1, fun hm => ?_⟩⟩
  · rcases hl j hj with h1 | h1
    · rcases h.fr j h1 with h2 | h2
      · exact h2
      · omega
    · omega
  · rcases hF' j hj with h1 | h1
    · exact h.fr j h1
    · exact .inr (by omega)
  · rcases hF' j hm with h1 | h1
    · exact (h.lf j hj).2 h1
    · have := h.hlv.lt j hj; omega

theorem keep_putObj (W : World) (l : Nat) (o : Obj) : Keep [l] W (W.putObj l o) :=
  ⟨rfl, rfl, rfl, by simp, fun k hk hn => World.putObj_heap_other (by simpa using hn)⟩

theorem ComeI.put {b : Nat} {F : List Nat} {step : Int} {L : List Ev} {w : World} {k : Nat} {sk : DS} {W : World} {F' : List Nat} {lv : Value} (h : ComeI b F step L w k sk W F' lv) (hF : ∀ j ∈ F, j < w.heap.size) {l : Nat} {o : Obj} (o' : Obj)
    (hl : w.heap.size + 6 ≤ l) (ho : W.heap[l]? = some o) (hc : o.isCells = false) : ComeI b F step L w k sk (W.putObj l o') F' lv := by
  have n1 : ∀ j ∈ F', j ∉ [l] := fun j hj hm => by
    simp at hm; subst hm
    have := h.dv.cellsB j hj o ho; rw [hc] at this; cases this
  refine h.move hF (keep_putObj W l o') (fun j hj => by simp at hj; subst hj; exact .inr hl) (fun j hj hm => ?_) (h.dv.keep (keep_putObj W l o') n1) (fun j hj => .inl hj)
  simp at hm; subst hm
  have := Buf.cellsB h.hlv j hj o ho; rw [hc] at this; cases this

theorem ComeI.keep0 {b : Nat} {F : List Nat} {step : Int} {L : List Ev} {w : World} {k : Nat} {sk : DS} {W x : World} {F' : List Nat} {lv : Value} (h : ComeI b F step L w k sk W F' lv) (hF : ∀ j ∈ F, j < w.heap.size) (hk : Keep [] W x) : ComeI b F step L w k sk x F' lv :=
  h.move hF hk (by simp) (by simp) (h.dv.keep0 hk) (fun j hj => .inl hj)

end Go.Proofs.Ytgeakpeaohggoaa
