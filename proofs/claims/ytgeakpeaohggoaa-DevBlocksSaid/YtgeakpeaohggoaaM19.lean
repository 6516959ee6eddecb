/- Contracts of the functions that the law reaches, walked, and the plain laws on them (several texts in one). -/
import Derived.BigRegion
import Derived.Test.YtgeakpeaohggoaaM11

/- Devices: what they have is saved. -/
namespace Go.Proofs.Ytgeakpeaohggoaa
open Go.RowKit Go.Mum
set_option linter.unusedVariables false
set_option linter.unusedSimpArgs false
set_option maxRecDepth 100000

/-- What is saved, as it lies in memory: the twelve cells of the devices. -/
structure SvV (A : Array Value) (o dk q sc : Value) (bits mask bk ad st kd fr to : Nat) : Prop where
  size : A.size = 35
  c23 : A[23]? = some o
  c24 : A[24]? = some dk
  c25 : A[25]? = some q
  c26 : A[26]? = some sc
  c27 : A[27]? = some (.int .u32 bits)
  c28 : A[28]? = some (.int .u32 mask)
  c29 : A[29]? = some (.int .u32 bk)
  c30 : A[30]? = some (.int .u32 ad)
  c31 : A[31]? = some (.int .u32 st)
  c32 : A[32]? = some (.int .u32 kd)
  c33 : A[33]? = some (.int .u32 fr)
  c34 : A[34]? = some (.int .u32 to)

/-- While it is saved: the rows that are made, the variable that may be. -/
structure SvI (y x : World) (n3 : Option Nat) (L : List (TypeId × Nat × Value × Nat × List Value)) : Prop where
  k : Keep [] y x
  bs : ∀ p ∈ L, Buf x p.1 p.2.1 p.2.2.1 p.2.2.2.1 p.2.2.2.2 ∧ ∀ j ∈ blk p.2.2.1, some j ≠ n3 ∧ y.heap.size ≤ j
  al : ∀ n, n3 = some n → y.heap.size ≤ n ∧ ∃ cs : Array Value, cs.size = 35 ∧ x.heap[n]? = some (.cells cs 47 (0, 0))

theorem SvI.call {y x x' : World} {n3 : Option Nat} {L : List (TypeId × Nat × Value × Nat × List Value)} (h : SvI y x n3 L) (hk : Keep [] x x') {e : TypeId} {sz : Nat} {v : Value} {n : Nat} {xs : List Value} (hb : Buf x' e sz v n xs) (hs : ∀ j ∈ blk v, x.heap.size ≤ j) :
    SvI y x' n3 (L ++ [(e, sz, v, n, xs)]) := by
  refine ⟨h.k.trans hk, fun p hp => ?_, fun n hn => ?_⟩
  · rcases List.mem_append.1 hp with hp | hp
    · exact ⟨(h.bs p hp).1.keep0 hk, (h.bs p hp).2⟩
    · simp only [List.mem_cons, List.not_mem_nil, or_false] at hp
      subst hp
      refine ⟨hb, fun j hj => ⟨fun hm => ?_, by have := hs j hj; have := h.k.size; show y.heap.size ≤ j; omega⟩⟩
      obtain ⟨_, cs, _, hc⟩ := h.al j hm.symm
      have := lt_of_heap hc
      have := hs j hj
      omega
  · obtain ⟨h1, cs, h2, h3⟩ := h.al n hn
    exact ⟨h1, cs, h2, hk.heap h3 (by simp)⟩

theorem SvI.alloc {y x : World} {L : List (TypeId × Nat × Value × Nat × List Value)} (h : SvI y x none L) {cs : Array Value} (hc : cs.size = 35) : SvI y (x.alloc (.cells cs 47)) (some x.heap.size) L := by
  refine ⟨h.k.alloc _, fun p hp => ⟨(h.bs p hp).1.keep0 ((Keep.refl _ _).alloc _), fun j hj => ⟨fun hm => ?_, ((h.bs p hp).2 j hj).2⟩⟩, fun n hn => ?_⟩
  · cases hm
    exact Nat.lt_irrefl _ ((h.bs p hp).1.lt _ hj)
  · cases hn
    exact ⟨h.k.size, cs, hc, heap_alloc_at _ rfl⟩

theorem store_row {w : World} {n : Nat} {cs A : Array Value} {t : TypeId} (h : w.heap[n]? = some (.cells cs t (0, 0))) (hs : cs.size = A.size) : (w.setCells n 0 A.toList).heap[n]? = some (.cells A t (0, 0)) := by
  obtain ⟨cs', g1, g2, g3, g4, g5⟩ := heap_setCells_same A.toList 0 w cs h (by simp; omega)
  have : cs' = A := by
    apply Array.ext
    · omega
    · intro i h1 h2
      have := g4 i A[i] (by simp [h2])
      rw [Nat.zero_add] at this
      exact (Array.getElem?_eq_some_iff.1 this).2
  rw [g1, this]

theorem there_row {w : World} {n : Nat} {cs : Array Value} {t : TypeId} (h : w.heap[n]? = some (.cells cs t (0, 0))) (m : Nat) (hm : m ≤ cs.size) : w.there n 0 m := by
  intro j hj
  refine ⟨?_, frozen_of h _⟩
  rw [cell_of h (0 + j) (v := cs[0 + j]'(by omega)) (by simp [show j < cs.size by omega])]; rfl

theorem range_row {w : World} {n : Nat} {A : Array Value} {t : TypeId} (h : w.heap[n]? = some (.cells A t (0, 0))) : w.rangeAt n 0 A.toList := by
  intro j u hu
  rw [Nat.zero_add]
  exact cell_of h j (by simpa using hu)

theorem SvI.store {y x : World} {n : Nat} {L : List (TypeId × Nat × Value × Nat × List Value)} (h : SvI y x (some n) L) (A : Array Value) (hA : A.size = 35) :
    ∃ z, z = x.setCells n 0 A.toList ∧ z.heap[n]? = some (.cells A 47 (0, 0)) ∧ Keep [] y z ∧ ∀ p ∈ L, Buf z p.1 p.2.1 p.2.2.1 p.2.2.2.1 p.2.2.2.2 ∧ ∀ j ∈ blk p.2.2.1, j ≠ n ∧ y.heap.size ≤ j := by
  obtain ⟨h1, cs, h2, h3⟩ := h.al n rfl
  have kz : Keep [n] x (x.setCells n 0 A.toList) := keep_setCells (by simp) _ _ _ (Keep.refl _ _)
  refine ⟨_, rfl, store_row h3 (by rw [h2, hA]), h.k.then kz (fun j hj hlt => by simp at hj; omega), fun p hp => ⟨(h.bs p hp).1.keep kz (fun j hj hm => ?_), fun j hj => ⟨fun hm => ?_, ((h.bs p hp).2 j hj).2⟩⟩⟩
  · simp at hm; exact ((h.bs p hp).2 j hj).1 (by rw [hm])
  · exact ((h.bs p hp).2 j hj).1 (by rw [hm])

theorem info_saved : (Try.prog.info? 47).map (·.size) = some 35 := by kernel_rfl

def SavePost (s : DS) (w : World) (e : Ending) (w' : World) : Prop := ∃ A va vc v2 vc2 v3 vc3 v4 vc4, e = .returned (.agg A) ∧
      SvV A (.slice va s.out.length vc) (.slice v2 s.disk.length vc2) (.slice v3 s.queue.length vc3) (.slice v4 s.script.length vc4) s.bits s.mask s.bk s.ad s.st (if s.st = 1 then s.kd else 0) (if s.st = 1 then s.fr else 0) (if s.st = 1 then s.to else 0) ∧
      Row w' va vc s.out ∧ Row w' v2 vc2 s.disk ∧ Row w' v3 vc3 s.queue ∧ Rd w' 3 v4 s.script.length vc4 (evsC s.script) ∧ Keep [] w w'

def svArr (o dk q sc : Value) (bits mask bk ad st kd fr to : Nat) : Array Value := #[.int .i64 0, .slice none 0 0, .int .u32 0, .int .u32 0, .int .u32 0, .int .u32 0, .int .u32 0, .int .u32 0, .int .u32 0, .int .u32 0, .int .u32 0, .int .u32 0, .int .u32 0, .int .u32 0, .int .u32 0, .int .u32 0, .int .u32 0, .int .u32 0, .int .u32 0, .int .u32 0, .bool false, .int .i64 0, .slice none 0 0, o, dk, q, sc, .int .u32 bits, .int .u32 mask, .int .u32 bk, .int .u32 ad, .int .u32 st, .int .u32 kd, .int .u32 fr, .int .u32 to]

theorem svArr_one (a1 a2 a3 a4 : Option Addr) (n1 n2 n3 n4 c1 c2 c3 c4 bits mask bk ad st kd fr to : Nat) : (svArr (.slice a1 n1 c1) (.slice a2 n2 c2) (.slice a3 n3 c3) (.slice a4 n4 c4) bits mask bk ad st kd fr to).all (·.oneCell') = true := by simp [svArr, Value.oneCell']

def zero35 : Array Value := #[.int .i64 0, .slice none 0 0, .int .u32 0, .int .u32 0, .int .u32 0, .int .u32 0, .int .u32 0, .int .u32 0, .int .u32 0, .int .u32 0, .int .u32 0, .int .u32 0, .int .u32 0, .int .u32 0, .int .u32 0, .int .u32 0, .int .u32 0, .int .u32 0, .int .u32 0, .int .u32 0, .bool false, .int .i64 0, .slice none 0 0, .slice none 0 0, .slice none 0 0, .slice none 0 0, .slice none 0 0, .int .u32 0, .int .u32 0, .int .u32 0, .int .u32 0, .int .u32 0, .int .u32 0, .int .u32 0, .int .u32 0]

theorem save_fin {w y z x : World} {b0 n3 : Nat} {s : DS} {a1 a2 a3 a4 : Option Addr} {c1 c2 c3 c4 kd fr to : Nat} (ok : s.Ok) (hw : Keep [] w y) (hb : w.heap.size = b0) (hby : b0 < y.heap.size)
    (hyz : Keep [] y z) (hn : y.heap.size ≤ n3) (C1 : Buf z 5 1 (.slice a1 s.out.length c1) s.out.length (u8s s.out) ∧ ∀ j ∈ blk (.slice a1 s.out.length c1), j ≠ n3 ∧ b0 < j)
    (C2 : Buf z 5 1 (.slice a2 s.disk.length c2) s.disk.length (u8s s.disk) ∧ ∀ j ∈ blk (.slice a2 s.disk.length c2), j ≠ n3 ∧ b0 < j)
    (C3 : Buf z 5 1 (.slice a3 s.queue.length c3) s.queue.length (u8s s.queue) ∧ ∀ j ∈ blk (.slice a3 s.queue.length c3), j ≠ n3 ∧ b0 < j)
    (C4 : Buf z 25 3 (.slice a4 s.script.length c4) s.script.length (evsC s.script) ∧ ∀ j ∈ blk (.slice a4 s.script.length c4), j ≠ n3 ∧ b0 < j)
    (hx : Keep [n3, b0] z x) (hk : kd = (if s.st = 1 then s.kd else 0)) (hf : fr = (if s.st = 1 then s.fr else 0)) (ht : to = (if s.st = 1 then s.to else 0)) :
    SavePost s w (.returned (.agg (svArr (.slice a1 s.out.length c1) (.slice a2 s.disk.length c2) (.slice a3 s.queue.length c3) (.slice a4 s.script.length c4) s.bits s.mask s.bk s.ad s.st kd fr to))) x := by
  subst hk hf ht
  have n1 : ∀ {v : Value}, (∀ j ∈ blk v, j ≠ n3 ∧ b0 < j) → ∀ j ∈ blk v, j ∉ [n3, b0] := fun h j hj hm => by
    have := h j hj
    simp only [List.mem_cons, List.not_mem_nil, or_false] at hm
    omega
  refine ⟨_, a1, c1, a2, c2, a3, c3, a4, c4, rfl, ⟨rfl, rfl, rfl, rfl, rfl, rfl, rfl, rfl, rfl, rfl, rfl, rfl, rfl⟩, ?_, ?_, ?_, ?_, ?_⟩
  · exact ((C1.1.keep hx (n1 C1.2)).row ok.out.1).2
  · exact ((C2.1.keep hx (n1 C2.2)).row ok.disk.1).2
  · exact ((C3.1.keep hx (n1 C3.2)).row ok.queue.1).2
  · exact (C4.1.keep hx (n1 C4.2)).rd (evsC_one _)
  · refine (hw.trans hyz).then hx (fun j hj hlt => ?_)
    have := hw.size
    simp only [List.mem_cons, List.not_mem_nil, or_false] at hj
    omega

set_option maxHeartbeats 8000000 in
theorem dsave_at {w : World} {b : Nat} {F : List Nat} {s : DS} (h : DvAt w b F s) :
    Calls Try.prog 20 #[.pointer (some ⟨b, 0, none⟩)] w (SavePost s w) := by
  obtain ⟨ok, q, bl, sc, ou, hi, rfl⟩ := h
  have C0 := Lib.hid (fun x (hk : Keep [] w x) => dnone_no (hk.cell hi.made (by simp)))
  have HI := Lib.hid (And.intro ok hi)
  obtain ⟨qa, qc, rfl, _, _⟩ := hi.hq.shape
  obtain ⟨ba, bc, rfl, _, _⟩ := hi.hbl.shape
  obtain ⟨sa, scc, rfl, _, _⟩ := hi.hsc.shape
  obtain ⟨oa, oc, rfl, _, _⟩ := hi.hou.shape
  go_enter Try.func20, Try.ntmps20
  go_wp2_with (go_at_call 37; refine (C0.out _ ((Keep.refl [] w).alloc _)).mono ?_; rintro e w' ⟨rfl, rfl⟩)
  obtain ⟨b0, hb0⟩ : ∃ b, b = w.heap.size := ⟨_, rfl⟩
  rw [← hb0]
  generalize hy : World.alloc w _ = y2
  have HW0 := Lib.hid hb0
  have K2 : Hid (Keep [] w y2 ∧ ∃ cs : Array Value, cs.size = 35 ∧ y2.heap[b0]? = some (.cells cs 47 (0, 0))) := Lib.hid (by subst hy; exact ⟨(Keep.refl [] w).alloc _, _, by rfl, heap_alloc_at _ hb0⟩)
  have hS : y2.drew.cell? ⟨b, 0, none⟩ = some (.int .u32 s.bits) ∧ y2.drew.cell? ⟨b, 1, none⟩ = some (.int .u32 s.mask) ∧ y2.drew.cell? ⟨b, 2, none⟩ = some (.slice qa s.queue.length qc) ∧ y2.drew.cell? ⟨b, 4, none⟩ = some (.int .u32 s.bk) ∧ y2.drew.cell? ⟨b, 5, none⟩ = some (.int .u32 s.ad) ∧ y2.drew.cell? ⟨b, 6, none⟩ = some (.int .u32 s.st) ∧
      y2.drew.cell? ⟨b, 11, none⟩ = some (.slice sa s.script.length scc) ∧ y2.drew.cell? ⟨b, 12, none⟩ = some (.slice oa s.out.length oc) := by
    have hh : y2.drew.heap[b]? = _ := K2.out.1.heap HI.out.2.cs (by simp)
    exact ⟨cell_of hh 0 rfl, cell_of hh 1 rfl, cell_of hh 2 rfl, cell_of hh 4 rfl, cell_of hh 5 rfl, cell_of hh 6 rfl, cell_of hh 11 rfl, cell_of hh 12 rfl⟩
  clear hy hb0 hi ok
  refine wp_region_held_drew (S := fun z => z.cell? ⟨b, 0, none⟩ = some (.int .u32 s.bits) ∧ z.cell? ⟨b, 1, none⟩ = some (.int .u32 s.mask) ∧ z.cell? ⟨b, 2, none⟩ = some (.slice qa s.queue.length qc) ∧ z.cell? ⟨b, 4, none⟩ = some (.int .u32 s.bk) ∧ z.cell? ⟨b, 5, none⟩ = some (.int .u32 s.ad) ∧ z.cell? ⟨b, 6, none⟩ = some (.int .u32 s.st) ∧
      z.cell? ⟨b, 11, none⟩ = some (.slice sa s.script.length scc) ∧ z.cell? ⟨b, 12, none⟩ = some (.slice oa s.out.length oc)) (by kernel_rfl) hS (fun hHeld => ?_)
  generalize hwd : World.drew y2 = x0 at hHeld ⊢
  have H0 : Hid (Keep [] y2 x0) := Lib.hid (by subst hwd; exact (Keep.refl [] _).drew)
  clear hS hwd
  have HSO : Hid (∀ z, Keep [] y2 z → (z.cell? ⟨b, 0, none⟩ = some (.int .u32 s.bits) ∧ z.cell? ⟨b, 1, none⟩ = some (.int .u32 s.mask) ∧ z.cell? ⟨b, 2, none⟩ = some (.slice qa s.queue.length qc) ∧ z.cell? ⟨b, 4, none⟩ = some (.int .u32 s.bk) ∧ z.cell? ⟨b, 5, none⟩ = some (.int .u32 s.ad) ∧ z.cell? ⟨b, 6, none⟩ = some (.int .u32 s.st) ∧
      z.cell? ⟨b, 11, none⟩ = some (.slice sa s.script.length scc) ∧ z.cell? ⟨b, 12, none⟩ = some (.slice oa s.out.length oc))) := Lib.hid (fun z hz => by
    have hh : z.heap[b]? = _ := hz.heap (K2.out.1.heap HI.out.2.cs (by simp)) (by simp)
    exact ⟨cell_of hh 0 rfl, cell_of hh 1 rfl, cell_of hh 2 rfl, cell_of hh 4 rfl, cell_of hh 5 rfl, cell_of hh 6 rfl, cell_of hh 11 rfl, cell_of hh 12 rfl⟩)
  have HV : Hid (SvI y2 x0 none []) := Lib.hid ⟨H0.out, by simp, by simp⟩
  skip
  refine wpAnyH_take (i := 0) (oi := { dst := some 7, op := Op.move (Operand.tmp 0), type := 26, pos := "save.go:14", after := #[], guard := none }) (v := ?_) rfl (by kernel_rfl) (by kernel_rfl) (by kernel_rfl) (fun _ _ _ h => h) (Or.inl ⟨by rfl, ?_⟩) (by assumption) ?_
  rotate_left
  focus (intro w hSw; (try dsimp only at hSw); go_simp <;> with_reducible rfl)
  try simp only [Act.put, List.setIfInBounds_toArray, List.set_cons_zero, List.set_cons_succ]
  refine wpAnyH_take (i := 1) (oi := { dst := some 8, op := Op.nilCheck (Operand.tmp 7), type := 0, pos := "save.go:14", after := #[{ on := 0, ground := Ground.data }], guard := none }) (v := ?_) rfl (by kernel_rfl) (by kernel_rfl) (by kernel_rfl) (fun _ _ _ h => h) (Or.inl ⟨by rfl, ?_⟩) (by assumption) ?_
  rotate_left
  focus (intro w hSw; (try dsimp only at hSw); go_simp <;> with_reducible rfl)
  try simp only [Act.put, List.setIfInBounds_toArray, List.set_cons_zero, List.set_cons_succ]
  refine wpAnyH_take (i := 2) (oi := { dst := some 9, op := Op.fieldAddr 74 (Operand.tmp 8) 4, type := 0, pos := "save.go:14", after := #[{ on := 1, ground := Ground.data }], guard := none }) (v := ?_) rfl (by kernel_rfl) (by kernel_rfl) (by kernel_rfl) (fun _ _ _ h => h) (Or.inl ⟨by rfl, ?_⟩) (by assumption) ?_
  rotate_left
  focus (intro w hSw; (try dsimp only at hSw); go_simp <;> with_reducible rfl)
  try simp only [Act.put, List.setIfInBounds_toArray, List.set_cons_zero, List.set_cons_succ]
  refine wpAnyH_take (i := 3) (oi := { dst := some 10, op := Op.load 22 (Operand.tmp 9), type := 22, pos := "save.go:14", after := #[{ on := 2, ground := Ground.data }], guard := none }) (v := ?_) rfl (by kernel_rfl) (by kernel_rfl) (by kernel_rfl) (fun _ _ _ h => h) (Or.inl ⟨by rfl, ?_⟩) (by assumption) ?_
  rotate_left
  focus (intro w hSw; (try dsimp only at hSw); go_simp <;> with_reducible rfl)
  try simp only [Act.put, List.setIfInBounds_toArray, List.set_cons_zero, List.set_cons_succ]
  refine wpAnyH_take (i := 5) (oi := { dst := some 12, op := Op.move (Operand.tmp 0), type := 26, pos := "save.go:14", after := #[], guard := none }) (v := ?_) rfl (by kernel_rfl) (by kernel_rfl) (by kernel_rfl) (fun _ _ _ h => h) (Or.inl ⟨by rfl, ?_⟩) (by assumption) ?_
  rotate_left
  focus (intro w hSw; (try dsimp only at hSw); go_simp <;> with_reducible rfl)
  try simp only [Act.put, List.setIfInBounds_toArray, List.set_cons_zero, List.set_cons_succ]
  refine wpAnyH_take (i := 6) (oi := { dst := some 13, op := Op.nilCheck (Operand.tmp 12), type := 0, pos := "save.go:14", after := #[{ on := 5, ground := Ground.data }], guard := none }) (v := ?_) rfl (by kernel_rfl) (by kernel_rfl) (by kernel_rfl) (fun _ _ _ h => h) (Or.inl ⟨by rfl, ?_⟩) (by assumption) ?_
  rotate_left
  focus (intro w hSw; (try dsimp only at hSw); go_simp <;> with_reducible rfl)
  try simp only [Act.put, List.setIfInBounds_toArray, List.set_cons_zero, List.set_cons_succ]
  refine wpAnyH_take (i := 7) (oi := { dst := some 14, op := Op.fieldAddr 74 (Operand.tmp 13) 1, type := 0, pos := "save.go:14", after := #[{ on := 6, ground := Ground.data }], guard := none }) (v := ?_) rfl (by kernel_rfl) (by kernel_rfl) (by kernel_rfl) (fun _ _ _ h => h) (Or.inl ⟨by rfl, ?_⟩) (by assumption) ?_
  rotate_left
  focus (intro w hSw; (try dsimp only at hSw); go_simp <;> with_reducible rfl)
  try simp only [Act.put, List.setIfInBounds_toArray, List.set_cons_zero, List.set_cons_succ]
  refine wpAnyH_take (i := 9) (oi := { dst := some 16, op := Op.move (Operand.tmp 0), type := 26, pos := "save.go:14", after := #[], guard := none }) (v := ?_) rfl (by kernel_rfl) (by kernel_rfl) (by kernel_rfl) (fun _ _ _ h => h) (Or.inl ⟨by rfl, ?_⟩) (by assumption) ?_
  rotate_left
  focus (intro w hSw; (try dsimp only at hSw); go_simp <;> with_reducible rfl)
  try simp only [Act.put, List.setIfInBounds_toArray, List.set_cons_zero, List.set_cons_succ]
  refine wpAnyH_take (i := 10) (oi := { dst := some 17, op := Op.nilCheck (Operand.tmp 16), type := 0, pos := "save.go:14", after := #[{ on := 9, ground := Ground.data }], guard := none }) (v := ?_) rfl (by kernel_rfl) (by kernel_rfl) (by kernel_rfl) (fun _ _ _ h => h) (Or.inl ⟨by rfl, ?_⟩) (by assumption) ?_
  rotate_left
  focus (intro w hSw; (try dsimp only at hSw); go_simp <;> with_reducible rfl)
  try simp only [Act.put, List.setIfInBounds_toArray, List.set_cons_zero, List.set_cons_succ]
  refine wpAnyH_take (i := 11) (oi := { dst := some 18, op := Op.fieldAddr 74 (Operand.tmp 17) 0, type := 0, pos := "save.go:14", after := #[{ on := 10, ground := Ground.data }], guard := none }) (v := ?_) rfl (by kernel_rfl) (by kernel_rfl) (by kernel_rfl) (fun _ _ _ h => h) (Or.inl ⟨by rfl, ?_⟩) (by assumption) ?_
  rotate_left
  focus (intro w hSw; (try dsimp only at hSw); go_simp <;> with_reducible rfl)
  try simp only [Act.put, List.setIfInBounds_toArray, List.set_cons_zero, List.set_cons_succ]
  refine wpAnyH_take (i := 12) (oi := { dst := some 19, op := Op.fieldAddr 67 (Operand.tmp 18) 2, type := 0, pos := "save.go:14", after := #[{ on := 11, ground := Ground.data }], guard := none }) (v := ?_) rfl (by kernel_rfl) (by kernel_rfl) (by kernel_rfl) (fun _ _ _ h => h) (Or.inl ⟨by rfl, ?_⟩) (by assumption) ?_
  rotate_left
  focus (intro w hSw; (try dsimp only at hSw); go_simp <;> with_reducible rfl)
  try simp only [Act.put, List.setIfInBounds_toArray, List.set_cons_zero, List.set_cons_succ]
  refine wpAnyH_take (i := 13) (oi := { dst := some 20, op := Op.load 22 (Operand.tmp 19), type := 22, pos := "save.go:14", after := #[{ on := 12, ground := Ground.data }], guard := none }) (v := ?_) rfl (by kernel_rfl) (by kernel_rfl) (by kernel_rfl) (fun _ _ _ h => h) (Or.inl ⟨by rfl, ?_⟩) (by assumption) ?_
  rotate_left
  focus (intro w hSw; (try dsimp only at hSw); go_simp <;> with_reducible rfl)
  try simp only [Act.put, List.setIfInBounds_toArray, List.set_cons_zero, List.set_cons_succ]
  refine wpAnyH_take (i := 15) (oi := { dst := some 22, op := Op.move (Operand.tmp 0), type := 26, pos := "save.go:14", after := #[], guard := none }) (v := ?_) rfl (by kernel_rfl) (by kernel_rfl) (by kernel_rfl) (fun _ _ _ h => h) (Or.inl ⟨by rfl, ?_⟩) (by assumption) ?_
  rotate_left
  focus (intro w hSw; (try dsimp only at hSw); go_simp <;> with_reducible rfl)
  try simp only [Act.put, List.setIfInBounds_toArray, List.set_cons_zero, List.set_cons_succ]
  refine wpAnyH_take (i := 16) (oi := { dst := some 23, op := Op.nilCheck (Operand.tmp 22), type := 0, pos := "save.go:14", after := #[{ on := 15, ground := Ground.data }], guard := none }) (v := ?_) rfl (by kernel_rfl) (by kernel_rfl) (by kernel_rfl) (fun _ _ _ h => h) (Or.inl ⟨by rfl, ?_⟩) (by assumption) ?_
  rotate_left
  focus (intro w hSw; (try dsimp only at hSw); go_simp <;> with_reducible rfl)
  try simp only [Act.put, List.setIfInBounds_toArray, List.set_cons_zero, List.set_cons_succ]
  refine wpAnyH_take (i := 17) (oi := { dst := some 24, op := Op.fieldAddr 74 (Operand.tmp 23) 3, type := 0, pos := "save.go:14", after := #[{ on := 16, ground := Ground.data }], guard := none }) (v := ?_) rfl (by kernel_rfl) (by kernel_rfl) (by kernel_rfl) (fun _ _ _ h => h) (Or.inl ⟨by rfl, ?_⟩) (by assumption) ?_
  rotate_left
  focus (intro w hSw; (try dsimp only at hSw); go_simp <;> with_reducible rfl)
  try simp only [Act.put, List.setIfInBounds_toArray, List.set_cons_zero, List.set_cons_succ]
  refine wpAnyH_take (i := 18) (oi := { dst := some 25, op := Op.load 23 (Operand.tmp 24), type := 23, pos := "save.go:14", after := #[{ on := 17, ground := Ground.data }], guard := none }) (v := ?_) rfl (by kernel_rfl) (by kernel_rfl) (by kernel_rfl) (fun _ _ _ h => h) (Or.inl ⟨by rfl, ?_⟩) (by assumption) ?_
  rotate_left
  focus (intro w hSw; (try dsimp only at hSw); go_simp <;> with_reducible rfl)
  try simp only [Act.put, List.setIfInBounds_toArray, List.set_cons_zero, List.set_cons_succ]
  refine wpAnyH_take (i := 20) (oi := { dst := some 27, op := Op.move (Operand.tmp 0), type := 26, pos := "save.go:14", after := #[], guard := none }) (v := ?_) rfl (by kernel_rfl) (by kernel_rfl) (by kernel_rfl) (fun _ _ _ h => h) (Or.inl ⟨by rfl, ?_⟩) (by assumption) ?_
  rotate_left
  focus (intro w hSw; (try dsimp only at hSw); go_simp <;> with_reducible rfl)
  try simp only [Act.put, List.setIfInBounds_toArray, List.set_cons_zero, List.set_cons_succ]
  refine wpAnyH_take (i := 21) (oi := { dst := some 28, op := Op.nilCheck (Operand.tmp 27), type := 0, pos := "save.go:14", after := #[{ on := 20, ground := Ground.data }], guard := none }) (v := ?_) rfl (by kernel_rfl) (by kernel_rfl) (by kernel_rfl) (fun _ _ _ h => h) (Or.inl ⟨by rfl, ?_⟩) (by assumption) ?_
  rotate_left
  focus (intro w hSw; (try dsimp only at hSw); go_simp <;> with_reducible rfl)
  try simp only [Act.put, List.setIfInBounds_toArray, List.set_cons_zero, List.set_cons_succ]
  refine wpAnyH_take (i := 22) (oi := { dst := some 29, op := Op.fieldAddr 74 (Operand.tmp 28) 0, type := 0, pos := "save.go:14", after := #[{ on := 21, ground := Ground.data }], guard := none }) (v := ?_) rfl (by kernel_rfl) (by kernel_rfl) (by kernel_rfl) (fun _ _ _ h => h) (Or.inl ⟨by rfl, ?_⟩) (by assumption) ?_
  rotate_left
  focus (intro w hSw; (try dsimp only at hSw); go_simp <;> with_reducible rfl)
  try simp only [Act.put, List.setIfInBounds_toArray, List.set_cons_zero, List.set_cons_succ]
  refine wpAnyH_take (i := 23) (oi := { dst := some 30, op := Op.fieldAddr 67 (Operand.tmp 29) 0, type := 0, pos := "save.go:14", after := #[{ on := 22, ground := Ground.data }], guard := none }) (v := ?_) rfl (by kernel_rfl) (by kernel_rfl) (by kernel_rfl) (fun _ _ _ h => h) (Or.inl ⟨by rfl, ?_⟩) (by assumption) ?_
  rotate_left
  focus (intro w hSw; (try dsimp only at hSw); go_simp <;> with_reducible rfl)
  try simp only [Act.put, List.setIfInBounds_toArray, List.set_cons_zero, List.set_cons_succ]
  refine wpAnyH_take (i := 24) (oi := { dst := some 31, op := Op.load 33 (Operand.tmp 30), type := 33, pos := "save.go:14", after := #[{ on := 23, ground := Ground.data }], guard := none }) (v := ?_) rfl (by kernel_rfl) (by kernel_rfl) (by kernel_rfl) (fun _ _ _ h => h) (Or.inl ⟨by rfl, ?_⟩) (by assumption) ?_
  rotate_left
  focus (intro w hSw; (try dsimp only at hSw); go_simp <;> with_reducible rfl)
  try simp only [Act.put, List.setIfInBounds_toArray, List.set_cons_zero, List.set_cons_succ]
  refine wpAnyH_take (i := 25) (oi := { dst := some 32, op := Op.move (Operand.tmp 0), type := 26, pos := "save.go:14", after := #[], guard := none }) (v := ?_) rfl (by kernel_rfl) (by kernel_rfl) (by kernel_rfl) (fun _ _ _ h => h) (Or.inl ⟨by rfl, ?_⟩) (by assumption) ?_
  rotate_left
  focus (intro w hSw; (try dsimp only at hSw); go_simp <;> with_reducible rfl)
  try simp only [Act.put, List.setIfInBounds_toArray, List.set_cons_zero, List.set_cons_succ]
  refine wpAnyH_take (i := 26) (oi := { dst := some 33, op := Op.nilCheck (Operand.tmp 32), type := 0, pos := "save.go:14", after := #[{ on := 25, ground := Ground.data }], guard := none }) (v := ?_) rfl (by kernel_rfl) (by kernel_rfl) (by kernel_rfl) (fun _ _ _ h => h) (Or.inl ⟨by rfl, ?_⟩) (by assumption) ?_
  rotate_left
  focus (intro w hSw; (try dsimp only at hSw); go_simp <;> with_reducible rfl)
  try simp only [Act.put, List.setIfInBounds_toArray, List.set_cons_zero, List.set_cons_succ]
  refine wpAnyH_take (i := 27) (oi := { dst := some 34, op := Op.fieldAddr 74 (Operand.tmp 33) 0, type := 0, pos := "save.go:14", after := #[{ on := 26, ground := Ground.data }], guard := none }) (v := ?_) rfl (by kernel_rfl) (by kernel_rfl) (by kernel_rfl) (fun _ _ _ h => h) (Or.inl ⟨by rfl, ?_⟩) (by assumption) ?_
  rotate_left
  focus (intro w hSw; (try dsimp only at hSw); go_simp <;> with_reducible rfl)
  try simp only [Act.put, List.setIfInBounds_toArray, List.set_cons_zero, List.set_cons_succ]
  refine wpAnyH_take (i := 28) (oi := { dst := some 35, op := Op.fieldAddr 67 (Operand.tmp 34) 1, type := 0, pos := "save.go:14", after := #[{ on := 27, ground := Ground.data }], guard := none }) (v := ?_) rfl (by kernel_rfl) (by kernel_rfl) (by kernel_rfl) (fun _ _ _ h => h) (Or.inl ⟨by rfl, ?_⟩) (by assumption) ?_
  rotate_left
  focus (intro w hSw; (try dsimp only at hSw); go_simp <;> with_reducible rfl)
  try simp only [Act.put, List.setIfInBounds_toArray, List.set_cons_zero, List.set_cons_succ]
  refine wpAnyH_take (i := 29) (oi := { dst := some 36, op := Op.load 33 (Operand.tmp 35), type := 33, pos := "save.go:14", after := #[{ on := 28, ground := Ground.data }], guard := none }) (v := ?_) rfl (by kernel_rfl) (by kernel_rfl) (by kernel_rfl) (fun _ _ _ h => h) (Or.inl ⟨by rfl, ?_⟩) (by assumption) ?_
  rotate_left
  focus (intro w hSw; (try dsimp only at hSw); go_simp <;> with_reducible rfl)
  try simp only [Act.put, List.setIfInBounds_toArray, List.set_cons_zero, List.set_cons_succ]
  refine wpAnyH_take (i := 30) (oi := { dst := some 37, op := Op.move (Operand.tmp 0), type := 26, pos := "save.go:14", after := #[], guard := none }) (v := ?_) rfl (by kernel_rfl) (by kernel_rfl) (by kernel_rfl) (fun _ _ _ h => h) (Or.inl ⟨by rfl, ?_⟩) (by assumption) ?_
  rotate_left
  focus (intro w hSw; (try dsimp only at hSw); go_simp <;> with_reducible rfl)
  try simp only [Act.put, List.setIfInBounds_toArray, List.set_cons_zero, List.set_cons_succ]
  refine wpAnyH_take (i := 31) (oi := { dst := some 38, op := Op.nilCheck (Operand.tmp 37), type := 0, pos := "save.go:14", after := #[{ on := 30, ground := Ground.data }], guard := none }) (v := ?_) rfl (by kernel_rfl) (by kernel_rfl) (by kernel_rfl) (fun _ _ _ h => h) (Or.inl ⟨by rfl, ?_⟩) (by assumption) ?_
  rotate_left
  focus (intro w hSw; (try dsimp only at hSw); go_simp <;> with_reducible rfl)
  try simp only [Act.put, List.setIfInBounds_toArray, List.set_cons_zero, List.set_cons_succ]
  refine wpAnyH_take (i := 32) (oi := { dst := some 39, op := Op.fieldAddr 74 (Operand.tmp 38) 1, type := 0, pos := "save.go:14", after := #[{ on := 31, ground := Ground.data }], guard := none }) (v := ?_) rfl (by kernel_rfl) (by kernel_rfl) (by kernel_rfl) (fun _ _ _ h => h) (Or.inl ⟨by rfl, ?_⟩) (by assumption) ?_
  rotate_left
  focus (intro w hSw; (try dsimp only at hSw); go_simp <;> with_reducible rfl)
  try simp only [Act.put, List.setIfInBounds_toArray, List.set_cons_zero, List.set_cons_succ]
  refine wpAnyH_take (i := 33) (oi := { dst := some 40, op := Op.fieldAddr 72 (Operand.tmp 39) 1, type := 0, pos := "save.go:14", after := #[{ on := 32, ground := Ground.data }], guard := none }) (v := ?_) rfl (by kernel_rfl) (by kernel_rfl) (by kernel_rfl) (fun _ _ _ h => h) (Or.inl ⟨by rfl, ?_⟩) (by assumption) ?_
  rotate_left
  focus (intro w hSw; (try dsimp only at hSw); go_simp <;> with_reducible rfl)
  try simp only [Act.put, List.setIfInBounds_toArray, List.set_cons_zero, List.set_cons_succ]
  refine wpAnyH_take (i := 34) (oi := { dst := some 41, op := Op.load 33 (Operand.tmp 40), type := 33, pos := "save.go:14", after := #[{ on := 33, ground := Ground.data }], guard := none }) (v := ?_) rfl (by kernel_rfl) (by kernel_rfl) (by kernel_rfl) (fun _ _ _ h => h) (Or.inl ⟨by rfl, ?_⟩) (by assumption) ?_
  rotate_left
  focus (intro w hSw; (try dsimp only at hSw); go_simp <;> with_reducible rfl)
  try simp only [Act.put, List.setIfInBounds_toArray, List.set_cons_zero, List.set_cons_succ]
  refine wpAnyH_take (i := 35) (oi := { dst := some 42, op := Op.move (Operand.tmp 0), type := 26, pos := "save.go:14", after := #[], guard := none }) (v := ?_) rfl (by kernel_rfl) (by kernel_rfl) (by kernel_rfl) (fun _ _ _ h => h) (Or.inl ⟨by rfl, ?_⟩) (by assumption) ?_
  rotate_left
  focus (intro w hSw; (try dsimp only at hSw); go_simp <;> with_reducible rfl)
  try simp only [Act.put, List.setIfInBounds_toArray, List.set_cons_zero, List.set_cons_succ]
  refine wpAnyH_take (i := 36) (oi := { dst := some 43, op := Op.nilCheck (Operand.tmp 42), type := 0, pos := "save.go:14", after := #[{ on := 35, ground := Ground.data }], guard := none }) (v := ?_) rfl (by kernel_rfl) (by kernel_rfl) (by kernel_rfl) (fun _ _ _ h => h) (Or.inl ⟨by rfl, ?_⟩) (by assumption) ?_
  rotate_left
  focus (intro w hSw; (try dsimp only at hSw); go_simp <;> with_reducible rfl)
  try simp only [Act.put, List.setIfInBounds_toArray, List.set_cons_zero, List.set_cons_succ]
  refine wpAnyH_take (i := 37) (oi := { dst := some 44, op := Op.fieldAddr 74 (Operand.tmp 43) 1, type := 0, pos := "save.go:14", after := #[{ on := 36, ground := Ground.data }], guard := none }) (v := ?_) rfl (by kernel_rfl) (by kernel_rfl) (by kernel_rfl) (fun _ _ _ h => h) (Or.inl ⟨by rfl, ?_⟩) (by assumption) ?_
  rotate_left
  focus (intro w hSw; (try dsimp only at hSw); go_simp <;> with_reducible rfl)
  try simp only [Act.put, List.setIfInBounds_toArray, List.set_cons_zero, List.set_cons_succ]
  refine wpAnyH_take (i := 38) (oi := { dst := some 45, op := Op.fieldAddr 72 (Operand.tmp 44) 2, type := 0, pos := "save.go:14", after := #[{ on := 37, ground := Ground.data }], guard := none }) (v := ?_) rfl (by kernel_rfl) (by kernel_rfl) (by kernel_rfl) (fun _ _ _ h => h) (Or.inl ⟨by rfl, ?_⟩) (by assumption) ?_
  rotate_left
  focus (intro w hSw; (try dsimp only at hSw); go_simp <;> with_reducible rfl)
  try simp only [Act.put, List.setIfInBounds_toArray, List.set_cons_zero, List.set_cons_succ]
  refine wpAnyH_take (i := 39) (oi := { dst := some 46, op := Op.load 33 (Operand.tmp 45), type := 33, pos := "save.go:14", after := #[{ on := 38, ground := Ground.data }], guard := none }) (v := ?_) rfl (by kernel_rfl) (by kernel_rfl) (by kernel_rfl) (fun _ _ _ h => h) (Or.inl ⟨by rfl, ?_⟩) (by assumption) ?_
  rotate_left
  focus (intro w hSw; (try dsimp only at hSw); go_simp <;> with_reducible rfl)
  try simp only [Act.put, List.setIfInBounds_toArray, List.set_cons_zero, List.set_cons_succ]
  refine wpAnyH_take (i := 40) (oi := { dst := some 47, op := Op.move (Operand.tmp 0), type := 26, pos := "save.go:14", after := #[], guard := none }) (v := ?_) rfl (by kernel_rfl) (by kernel_rfl) (by kernel_rfl) (fun _ _ _ h => h) (Or.inl ⟨by rfl, ?_⟩) (by assumption) ?_
  rotate_left
  focus (intro w hSw; (try dsimp only at hSw); go_simp <;> with_reducible rfl)
  try simp only [Act.put, List.setIfInBounds_toArray, List.set_cons_zero, List.set_cons_succ]
  refine wpAnyH_take (i := 41) (oi := { dst := some 48, op := Op.nilCheck (Operand.tmp 47), type := 0, pos := "save.go:14", after := #[{ on := 40, ground := Ground.data }], guard := none }) (v := ?_) rfl (by kernel_rfl) (by kernel_rfl) (by kernel_rfl) (fun _ _ _ h => h) (Or.inl ⟨by rfl, ?_⟩) (by assumption) ?_
  rotate_left
  focus (intro w hSw; (try dsimp only at hSw); go_simp <;> with_reducible rfl)
  try simp only [Act.put, List.setIfInBounds_toArray, List.set_cons_zero, List.set_cons_succ]
  refine wpAnyH_take (i := 42) (oi := { dst := some 49, op := Op.fieldAddr 74 (Operand.tmp 48) 1, type := 0, pos := "save.go:14", after := #[{ on := 41, ground := Ground.data }], guard := none }) (v := ?_) rfl (by kernel_rfl) (by kernel_rfl) (by kernel_rfl) (fun _ _ _ h => h) (Or.inl ⟨by rfl, ?_⟩) (by assumption) ?_
  rotate_left
  focus (intro w hSw; (try dsimp only at hSw); go_simp <;> with_reducible rfl)
  try simp only [Act.put, List.setIfInBounds_toArray, List.set_cons_zero, List.set_cons_succ]
  refine wpAnyH_take (i := 43) (oi := { dst := some 50, op := Op.fieldAddr 72 (Operand.tmp 49) 3, type := 0, pos := "save.go:14", after := #[{ on := 42, ground := Ground.data }], guard := none }) (v := ?_) rfl (by kernel_rfl) (by kernel_rfl) (by kernel_rfl) (fun _ _ _ h => h) (Or.inl ⟨by rfl, ?_⟩) (by assumption) ?_
  rotate_left
  focus (intro w hSw; (try dsimp only at hSw); go_simp <;> with_reducible rfl)
  try simp only [Act.put, List.setIfInBounds_toArray, List.set_cons_zero, List.set_cons_succ]
  refine wpAnyH_take (i := 44) (oi := { dst := some 51, op := Op.load 33 (Operand.tmp 50), type := 33, pos := "save.go:14", after := #[{ on := 43, ground := Ground.data }], guard := none }) (v := ?_) rfl (by kernel_rfl) (by kernel_rfl) (by kernel_rfl) (fun _ _ _ h => h) (Or.inl ⟨by rfl, ?_⟩) (by assumption) ?_
  rotate_left
  focus (intro w hSw; (try dsimp only at hSw); go_simp <;> with_reducible rfl)
  try simp only [Act.put, List.setIfInBounds_toArray, List.set_cons_zero, List.set_cons_succ]
  refine wpAnyH_ready (rs := [4, 46]) (by kernel_rfl) (by simp) ?_
  refine AllReadyH.cons (o := { dst := some 11, op := Op.call { callee := Callee.value (Operand.func 46), args := #[Operand.tmp 10], argTypes := #[22] }, type := 22, pos := "save.go:15", after := #[{ on := 3, ground := Ground.data }], guard := none }) rfl (fun K hK => ?_) (AllReadyH.cons (o := { dst := some 3, op := Op.alloc 47, type := 0, pos := "save.go:14", after := #[], guard := none }) rfl (fun K hK => ?_) AllReadyH.nil)
  all_goals go_simp
  rotate_left
  focus
    have HV' := HV.out.alloc (cs := zero35) rfl
    change K _ (World.alloc x0 (.cells zero35 47))
    generalize x0.heap.size = n3 at HV' ⊢
    generalize World.alloc x0 (.cells zero35 47) = xa at HV' ⊢
    clear HV
    have HV := Lib.hid HV'
    clear HV'
    refine shut_grow _ hK (fun _ h => h) (HSO.out _ HV.out.k) (fun hHeld => ?_)
    clear hK K
    skip
    refine wpAnyH_ready (rs := [4]) (by kernel_rfl) (by simp) ?_
    refine AllReadyH.cons (o := { dst := some 11, op := Op.call { callee := Callee.value (Operand.func 46), args := #[Operand.tmp 10], argTypes := #[22] }, type := 22, pos := "save.go:15", after := #[{ on := 3, ground := Ground.data }], guard := none }) rfl (fun K hK => ?_) AllReadyH.nil
    go_simp
    refine (cloneB_at ((HI.out.2.keep0 (K2.out.1.trans HV.out.k)).hou.rd (u8s_one _)) HI.out.1.out.2).mono ?_
    rintro e x1 ⟨v1, rfl, hb1, hk1, hs1⟩
    obtain ⟨va1, vc1, rfl, _, _⟩ := hb1.shape
    have HV' : Hid (SvI y2 x1 (some n3) [(5, 1, (.slice va1 s.out.length vc1), s.out.length, u8s s.out)]) := Lib.hid (HV.out.call hk1 hb1 hs1)
    clear hb1 hk1 hs1 HV
    go_wp2_with fail
    refine shut_grow _ hK (fun _ h => h) (HSO.out _ HV'.out.k) (fun hHeld => ?_)
    clear hK K
    have HV := HV'
    clear HV'
    skip
    refine wpAnyH_ready (rs := [8]) (by kernel_rfl) (by simp) ?_
    refine AllReadyH.cons (o := { dst := some 15, op := Op.call { callee := Callee.value (Operand.func 47), args := #[Operand.tmp 14], argTypes := #[72] }, type := 22, pos := "save.go:15", after := #[{ on := 7, ground := Ground.data }, { on := 4, ground := Ground.chain }], guard := none }) rfl (fun K hK => ?_) AllReadyH.nil
    go_simp
    refine (all_at (b := b) (cell_of (HI.out.2.keep0 (K2.out.1.trans HV.out.k)).cs 3 rfl) (HI.out.2.keep0 (K2.out.1.trans HV.out.k)).hbl HI.out.1.disk.1 (by have := HI.out.1.disk.2.1; omega)).mono ?_
    rintro e x2 ⟨v2, rfl, hb2, hk2, hs2⟩
    obtain ⟨va2, vc2, rfl, _, _⟩ := hb2.shape
    have HV' : Hid (SvI y2 x2 (some n3) [(5, 1, (.slice va1 s.out.length vc1), s.out.length, u8s s.out), (5, 1, (.slice va2 s.disk.length vc2), s.disk.length, u8s s.disk)]) := Lib.hid (HV.out.call hk2 hb2 hs2)
    clear hb2 hk2 hs2 HV
    go_wp2_with fail
    refine shut_grow _ hK (fun _ h => h) (HSO.out _ HV'.out.k) (fun hHeld => ?_)
    clear hK K
    have HV := HV'
    clear HV'
    skip
    refine wpAnyH_ready (rs := [14]) (by kernel_rfl) (by simp) ?_
    refine AllReadyH.cons (o := { dst := some 21, op := Op.call { callee := Callee.value (Operand.func 46), args := #[Operand.tmp 20], argTypes := #[22] }, type := 22, pos := "save.go:15", after := #[{ on := 13, ground := Ground.data }, { on := 8, ground := Ground.chain }], guard := none }) rfl (fun K hK => ?_) AllReadyH.nil
    go_simp
    refine (cloneB_at ((HI.out.2.keep0 (K2.out.1.trans HV.out.k)).hq.rd (u8s_one _)) (by have := HI.out.1.queue.2; omega)).mono ?_
    rintro e x3 ⟨v3, rfl, hb3, hk3, hs3⟩
    obtain ⟨va3, vc3, rfl, _, _⟩ := hb3.shape
    have HV' : Hid (SvI y2 x3 (some n3) [(5, 1, (.slice va1 s.out.length vc1), s.out.length, u8s s.out), (5, 1, (.slice va2 s.disk.length vc2), s.disk.length, u8s s.disk), (5, 1, (.slice va3 s.queue.length vc3), s.queue.length, u8s s.queue)]) := Lib.hid (HV.out.call hk3 hb3 hs3)
    clear hb3 hk3 hs3 HV
    go_wp2_with fail
    refine shut_grow _ hK (fun _ h => h) (HSO.out _ HV'.out.k) (fun hHeld => ?_)
    clear hK K
    have HV := HV'
    clear HV'
    skip
    refine wpAnyH_ready (rs := [19]) (by kernel_rfl) (by simp) ?_
    refine AllReadyH.cons (o := { dst := some 26, op := Op.call { callee := Callee.value (Operand.func 35), args := #[Operand.tmp 25], argTypes := #[23] }, type := 23, pos := "save.go:15", after := #[{ on := 18, ground := Ground.data }, { on := 14, ground := Ground.chain }], guard := none }) rfl (fun K hK => ?_) AllReadyH.nil
    go_simp
    refine (cloneE_at ((HI.out.2.keep0 (K2.out.1.trans HV.out.k)).hsc.rd (evsC_one _)) (by have := HI.out.1.script.2; omega)).mono ?_
    rintro e x4 ⟨v4, rfl, hb4, hk4, hs4⟩
    obtain ⟨va4, vc4, rfl, _, _⟩ := hb4.shape
    have HV' : Hid (SvI y2 x4 (some n3) [(5, 1, (.slice va1 s.out.length vc1), s.out.length, u8s s.out), (5, 1, (.slice va2 s.disk.length vc2), s.disk.length, u8s s.disk), (5, 1, (.slice va3 s.queue.length vc3), s.queue.length, u8s s.queue), (25, 3, (.slice va4 s.script.length vc4), s.script.length, evsC s.script)]) := Lib.hid (HV.out.call hk4 hb4 hs4)
    clear hb4 hk4 hs4 HV
    go_wp2_with fail
    refine shut_grow _ hK (fun _ h => h) (HSO.out _ HV'.out.k) (fun hHeld => ?_)
    clear hK K
    have HV := HV'
    clear HV'
    refine wpAnyH_take (i := 45) (oi := { dst := some 52, op := Op.build 47 #[(5, Operand.tmp 11), (6, Operand.tmp 15), (7, Operand.tmp 21), (8, Operand.tmp 26), (9, Operand.tmp 31), (10, Operand.tmp 36), (11, Operand.tmp 41), (12, Operand.tmp 46), (13, Operand.tmp 51)], type := 47, pos := "save.go:14", after := #[{ on := 4, ground := Ground.data }, { on := 8, ground := Ground.data }, { on := 14, ground := Ground.data }, { on := 19, ground := Ground.data }, { on := 24, ground := Ground.data }, { on := 29, ground := Ground.data }, { on := 34, ground := Ground.data }, { on := 39, ground := Ground.data }, { on := 44, ground := Ground.data }], guard := none }) (v := ?_) rfl (by kernel_rfl) (by kernel_rfl) (by kernel_rfl) (fun _ _ _ h => h) (Or.inl ⟨by rfl, ?_⟩) (by assumption) ?_
    rotate_left
    focus (intro w hSw; (try dsimp only at hSw); go_simp <;> with_reducible rfl)
    try simp only [Act.put, List.setIfInBounds_toArray, List.set_cons_zero, List.set_cons_succ]

  rotate_left
  focus
    refine (cloneB_at ((HI.out.2.keep0 (K2.out.1.trans HV.out.k)).hou.rd (u8s_one _)) HI.out.1.out.2).mono ?_
    rintro e x1 ⟨v1, rfl, hb1, hk1, hs1⟩
    obtain ⟨va1, vc1, rfl, _, _⟩ := hb1.shape
    have HV' : Hid (SvI y2 x1 none [(5, 1, (.slice va1 s.out.length vc1), s.out.length, u8s s.out)]) := Lib.hid (HV.out.call hk1 hb1 hs1)
    clear hb1 hk1 hs1 HV
    go_wp2_with fail
    refine shut_grow _ hK (fun _ h => h) (HSO.out _ HV'.out.k) (fun hHeld => ?_)
    clear hK K
    have HV := HV'
    clear HV'
    skip
    refine wpAnyH_ready (rs := [8, 46]) (by kernel_rfl) (by simp) ?_
    refine AllReadyH.cons (o := { dst := some 15, op := Op.call { callee := Callee.value (Operand.func 47), args := #[Operand.tmp 14], argTypes := #[72] }, type := 22, pos := "save.go:15", after := #[{ on := 7, ground := Ground.data }, { on := 4, ground := Ground.chain }], guard := none }) rfl (fun K hK => ?_) (AllReadyH.cons (o := { dst := some 3, op := Op.alloc 47, type := 0, pos := "save.go:14", after := #[], guard := none }) rfl (fun K hK => ?_) AllReadyH.nil)
    all_goals go_simp
    rotate_left
    focus
      have HV' := HV.out.alloc (cs := zero35) rfl
      change K _ (World.alloc x1 (.cells zero35 47))
      generalize x1.heap.size = n3 at HV' ⊢
      generalize World.alloc x1 (.cells zero35 47) = xa at HV' ⊢
      clear HV
      have HV := Lib.hid HV'
      clear HV'
      refine shut_grow _ hK (fun _ h => h) (HSO.out _ HV.out.k) (fun hHeld => ?_)
      clear hK K
      skip
      refine wpAnyH_ready (rs := [8]) (by kernel_rfl) (by simp) ?_
      refine AllReadyH.cons (o := { dst := some 15, op := Op.call { callee := Callee.value (Operand.func 47), args := #[Operand.tmp 14], argTypes := #[72] }, type := 22, pos := "save.go:15", after := #[{ on := 7, ground := Ground.data }, { on := 4, ground := Ground.chain }], guard := none }) rfl (fun K hK => ?_) AllReadyH.nil
      go_simp
      refine (all_at (b := b) (cell_of (HI.out.2.keep0 (K2.out.1.trans HV.out.k)).cs 3 rfl) (HI.out.2.keep0 (K2.out.1.trans HV.out.k)).hbl HI.out.1.disk.1 (by have := HI.out.1.disk.2.1; omega)).mono ?_
      rintro e x2 ⟨v2, rfl, hb2, hk2, hs2⟩
      obtain ⟨va2, vc2, rfl, _, _⟩ := hb2.shape
      have HV' : Hid (SvI y2 x2 (some n3) [(5, 1, (.slice va1 s.out.length vc1), s.out.length, u8s s.out), (5, 1, (.slice va2 s.disk.length vc2), s.disk.length, u8s s.disk)]) := Lib.hid (HV.out.call hk2 hb2 hs2)
      clear hb2 hk2 hs2 HV
      go_wp2_with fail
      refine shut_grow _ hK (fun _ h => h) (HSO.out _ HV'.out.k) (fun hHeld => ?_)
      clear hK K
      have HV := HV'
      clear HV'
      skip
      refine wpAnyH_ready (rs := [14]) (by kernel_rfl) (by simp) ?_
      refine AllReadyH.cons (o := { dst := some 21, op := Op.call { callee := Callee.value (Operand.func 46), args := #[Operand.tmp 20], argTypes := #[22] }, type := 22, pos := "save.go:15", after := #[{ on := 13, ground := Ground.data }, { on := 8, ground := Ground.chain }], guard := none }) rfl (fun K hK => ?_) AllReadyH.nil
      go_simp
      refine (cloneB_at ((HI.out.2.keep0 (K2.out.1.trans HV.out.k)).hq.rd (u8s_one _)) (by have := HI.out.1.queue.2; omega)).mono ?_
      rintro e x3 ⟨v3, rfl, hb3, hk3, hs3⟩
      obtain ⟨va3, vc3, rfl, _, _⟩ := hb3.shape
      have HV' : Hid (SvI y2 x3 (some n3) [(5, 1, (.slice va1 s.out.length vc1), s.out.length, u8s s.out), (5, 1, (.slice va2 s.disk.length vc2), s.disk.length, u8s s.disk), (5, 1, (.slice va3 s.queue.length vc3), s.queue.length, u8s s.queue)]) := Lib.hid (HV.out.call hk3 hb3 hs3)
      clear hb3 hk3 hs3 HV
      go_wp2_with fail
      refine shut_grow _ hK (fun _ h => h) (HSO.out _ HV'.out.k) (fun hHeld => ?_)
      clear hK K
      have HV := HV'
      clear HV'
      skip
      refine wpAnyH_ready (rs := [19]) (by kernel_rfl) (by simp) ?_
      refine AllReadyH.cons (o := { dst := some 26, op := Op.call { callee := Callee.value (Operand.func 35), args := #[Operand.tmp 25], argTypes := #[23] }, type := 23, pos := "save.go:15", after := #[{ on := 18, ground := Ground.data }, { on := 14, ground := Ground.chain }], guard := none }) rfl (fun K hK => ?_) AllReadyH.nil
      go_simp
      refine (cloneE_at ((HI.out.2.keep0 (K2.out.1.trans HV.out.k)).hsc.rd (evsC_one _)) (by have := HI.out.1.script.2; omega)).mono ?_
      rintro e x4 ⟨v4, rfl, hb4, hk4, hs4⟩
      obtain ⟨va4, vc4, rfl, _, _⟩ := hb4.shape
      have HV' : Hid (SvI y2 x4 (some n3) [(5, 1, (.slice va1 s.out.length vc1), s.out.length, u8s s.out), (5, 1, (.slice va2 s.disk.length vc2), s.disk.length, u8s s.disk), (5, 1, (.slice va3 s.queue.length vc3), s.queue.length, u8s s.queue), (25, 3, (.slice va4 s.script.length vc4), s.script.length, evsC s.script)]) := Lib.hid (HV.out.call hk4 hb4 hs4)
      clear hb4 hk4 hs4 HV
      go_wp2_with fail
      refine shut_grow _ hK (fun _ h => h) (HSO.out _ HV'.out.k) (fun hHeld => ?_)
      clear hK K
      have HV := HV'
      clear HV'
      refine wpAnyH_take (i := 45) (oi := { dst := some 52, op := Op.build 47 #[(5, Operand.tmp 11), (6, Operand.tmp 15), (7, Operand.tmp 21), (8, Operand.tmp 26), (9, Operand.tmp 31), (10, Operand.tmp 36), (11, Operand.tmp 41), (12, Operand.tmp 46), (13, Operand.tmp 51)], type := 47, pos := "save.go:14", after := #[{ on := 4, ground := Ground.data }, { on := 8, ground := Ground.data }, { on := 14, ground := Ground.data }, { on := 19, ground := Ground.data }, { on := 24, ground := Ground.data }, { on := 29, ground := Ground.data }, { on := 34, ground := Ground.data }, { on := 39, ground := Ground.data }, { on := 44, ground := Ground.data }], guard := none }) (v := ?_) rfl (by kernel_rfl) (by kernel_rfl) (by kernel_rfl) (fun _ _ _ h => h) (Or.inl ⟨by rfl, ?_⟩) (by assumption) ?_
      rotate_left
      focus (intro w hSw; (try dsimp only at hSw); go_simp <;> with_reducible rfl)
      try simp only [Act.put, List.setIfInBounds_toArray, List.set_cons_zero, List.set_cons_succ]

    rotate_left
    focus
      refine (all_at (b := b) (cell_of (HI.out.2.keep0 (K2.out.1.trans HV.out.k)).cs 3 rfl) (HI.out.2.keep0 (K2.out.1.trans HV.out.k)).hbl HI.out.1.disk.1 (by have := HI.out.1.disk.2.1; omega)).mono ?_
      rintro e x2 ⟨v2, rfl, hb2, hk2, hs2⟩
      obtain ⟨va2, vc2, rfl, _, _⟩ := hb2.shape
      have HV' : Hid (SvI y2 x2 none [(5, 1, (.slice va1 s.out.length vc1), s.out.length, u8s s.out), (5, 1, (.slice va2 s.disk.length vc2), s.disk.length, u8s s.disk)]) := Lib.hid (HV.out.call hk2 hb2 hs2)
      clear hb2 hk2 hs2 HV
      go_wp2_with fail
      refine shut_grow _ hK (fun _ h => h) (HSO.out _ HV'.out.k) (fun hHeld => ?_)
      clear hK K
      have HV := HV'
      clear HV'
      skip
      refine wpAnyH_ready (rs := [14, 46]) (by kernel_rfl) (by simp) ?_
      refine AllReadyH.cons (o := { dst := some 21, op := Op.call { callee := Callee.value (Operand.func 46), args := #[Operand.tmp 20], argTypes := #[22] }, type := 22, pos := "save.go:15", after := #[{ on := 13, ground := Ground.data }, { on := 8, ground := Ground.chain }], guard := none }) rfl (fun K hK => ?_) (AllReadyH.cons (o := { dst := some 3, op := Op.alloc 47, type := 0, pos := "save.go:14", after := #[], guard := none }) rfl (fun K hK => ?_) AllReadyH.nil)
      all_goals go_simp
      rotate_left
      focus
        have HV' := HV.out.alloc (cs := zero35) rfl
        change K _ (World.alloc x2 (.cells zero35 47))
        generalize x2.heap.size = n3 at HV' ⊢
        generalize World.alloc x2 (.cells zero35 47) = xa at HV' ⊢
        clear HV
        have HV := Lib.hid HV'
        clear HV'
        refine shut_grow _ hK (fun _ h => h) (HSO.out _ HV.out.k) (fun hHeld => ?_)
        clear hK K
        skip
        refine wpAnyH_ready (rs := [14]) (by kernel_rfl) (by simp) ?_
        refine AllReadyH.cons (o := { dst := some 21, op := Op.call { callee := Callee.value (Operand.func 46), args := #[Operand.tmp 20], argTypes := #[22] }, type := 22, pos := "save.go:15", after := #[{ on := 13, ground := Ground.data }, { on := 8, ground := Ground.chain }], guard := none }) rfl (fun K hK => ?_) AllReadyH.nil
        go_simp
        refine (cloneB_at ((HI.out.2.keep0 (K2.out.1.trans HV.out.k)).hq.rd (u8s_one _)) (by have := HI.out.1.queue.2; omega)).mono ?_
        rintro e x3 ⟨v3, rfl, hb3, hk3, hs3⟩
        obtain ⟨va3, vc3, rfl, _, _⟩ := hb3.shape
        have HV' : Hid (SvI y2 x3 (some n3) [(5, 1, (.slice va1 s.out.length vc1), s.out.length, u8s s.out), (5, 1, (.slice va2 s.disk.length vc2), s.disk.length, u8s s.disk), (5, 1, (.slice va3 s.queue.length vc3), s.queue.length, u8s s.queue)]) := Lib.hid (HV.out.call hk3 hb3 hs3)
        clear hb3 hk3 hs3 HV
        go_wp2_with fail
        refine shut_grow _ hK (fun _ h => h) (HSO.out _ HV'.out.k) (fun hHeld => ?_)
        clear hK K
        have HV := HV'
        clear HV'
        skip
        refine wpAnyH_ready (rs := [19]) (by kernel_rfl) (by simp) ?_
        refine AllReadyH.cons (o := { dst := some 26, op := Op.call { callee := Callee.value (Operand.func 35), args := #[Operand.tmp 25], argTypes := #[23] }, type := 23, pos := "save.go:15", after := #[{ on := 18, ground := Ground.data }, { on := 14, ground := Ground.chain }], guard := none }) rfl (fun K hK => ?_) AllReadyH.nil
        go_simp
        refine (cloneE_at ((HI.out.2.keep0 (K2.out.1.trans HV.out.k)).hsc.rd (evsC_one _)) (by have := HI.out.1.script.2; omega)).mono ?_
        rintro e x4 ⟨v4, rfl, hb4, hk4, hs4⟩
        obtain ⟨va4, vc4, rfl, _, _⟩ := hb4.shape
        have HV' : Hid (SvI y2 x4 (some n3) [(5, 1, (.slice va1 s.out.length vc1), s.out.length, u8s s.out), (5, 1, (.slice va2 s.disk.length vc2), s.disk.length, u8s s.disk), (5, 1, (.slice va3 s.queue.length vc3), s.queue.length, u8s s.queue), (25, 3, (.slice va4 s.script.length vc4), s.script.length, evsC s.script)]) := Lib.hid (HV.out.call hk4 hb4 hs4)
        clear hb4 hk4 hs4 HV
        go_wp2_with fail
        refine shut_grow _ hK (fun _ h => h) (HSO.out _ HV'.out.k) (fun hHeld => ?_)
        clear hK K
        have HV := HV'
        clear HV'
        refine wpAnyH_take (i := 45) (oi := { dst := some 52, op := Op.build 47 #[(5, Operand.tmp 11), (6, Operand.tmp 15), (7, Operand.tmp 21), (8, Operand.tmp 26), (9, Operand.tmp 31), (10, Operand.tmp 36), (11, Operand.tmp 41), (12, Operand.tmp 46), (13, Operand.tmp 51)], type := 47, pos := "save.go:14", after := #[{ on := 4, ground := Ground.data }, { on := 8, ground := Ground.data }, { on := 14, ground := Ground.data }, { on := 19, ground := Ground.data }, { on := 24, ground := Ground.data }, { on := 29, ground := Ground.data }, { on := 34, ground := Ground.data }, { on := 39, ground := Ground.data }, { on := 44, ground := Ground.data }], guard := none }) (v := ?_) rfl (by kernel_rfl) (by kernel_rfl) (by kernel_rfl) (fun _ _ _ h => h) (Or.inl ⟨by rfl, ?_⟩) (by assumption) ?_
        rotate_left
        focus (intro w hSw; (try dsimp only at hSw); go_simp <;> with_reducible rfl)
        try simp only [Act.put, List.setIfInBounds_toArray, List.set_cons_zero, List.set_cons_succ]

      rotate_left
      focus
        refine (cloneB_at ((HI.out.2.keep0 (K2.out.1.trans HV.out.k)).hq.rd (u8s_one _)) (by have := HI.out.1.queue.2; omega)).mono ?_
        rintro e x3 ⟨v3, rfl, hb3, hk3, hs3⟩
        obtain ⟨va3, vc3, rfl, _, _⟩ := hb3.shape
        have HV' : Hid (SvI y2 x3 none [(5, 1, (.slice va1 s.out.length vc1), s.out.length, u8s s.out), (5, 1, (.slice va2 s.disk.length vc2), s.disk.length, u8s s.disk), (5, 1, (.slice va3 s.queue.length vc3), s.queue.length, u8s s.queue)]) := Lib.hid (HV.out.call hk3 hb3 hs3)
        clear hb3 hk3 hs3 HV
        go_wp2_with fail
        refine shut_grow _ hK (fun _ h => h) (HSO.out _ HV'.out.k) (fun hHeld => ?_)
        clear hK K
        have HV := HV'
        clear HV'
        skip
        refine wpAnyH_ready (rs := [19, 46]) (by kernel_rfl) (by simp) ?_
        refine AllReadyH.cons (o := { dst := some 26, op := Op.call { callee := Callee.value (Operand.func 35), args := #[Operand.tmp 25], argTypes := #[23] }, type := 23, pos := "save.go:15", after := #[{ on := 18, ground := Ground.data }, { on := 14, ground := Ground.chain }], guard := none }) rfl (fun K hK => ?_) (AllReadyH.cons (o := { dst := some 3, op := Op.alloc 47, type := 0, pos := "save.go:14", after := #[], guard := none }) rfl (fun K hK => ?_) AllReadyH.nil)
        all_goals go_simp
        rotate_left
        focus
          have HV' := HV.out.alloc (cs := zero35) rfl
          change K _ (World.alloc x3 (.cells zero35 47))
          generalize x3.heap.size = n3 at HV' ⊢
          generalize World.alloc x3 (.cells zero35 47) = xa at HV' ⊢
          clear HV
          have HV := Lib.hid HV'
          clear HV'
          refine shut_grow _ hK (fun _ h => h) (HSO.out _ HV.out.k) (fun hHeld => ?_)
          clear hK K
          skip
          refine wpAnyH_ready (rs := [19]) (by kernel_rfl) (by simp) ?_
          refine AllReadyH.cons (o := { dst := some 26, op := Op.call { callee := Callee.value (Operand.func 35), args := #[Operand.tmp 25], argTypes := #[23] }, type := 23, pos := "save.go:15", after := #[{ on := 18, ground := Ground.data }, { on := 14, ground := Ground.chain }], guard := none }) rfl (fun K hK => ?_) AllReadyH.nil
          go_simp
          refine (cloneE_at ((HI.out.2.keep0 (K2.out.1.trans HV.out.k)).hsc.rd (evsC_one _)) (by have := HI.out.1.script.2; omega)).mono ?_
          rintro e x4 ⟨v4, rfl, hb4, hk4, hs4⟩
          obtain ⟨va4, vc4, rfl, _, _⟩ := hb4.shape
          have HV' : Hid (SvI y2 x4 (some n3) [(5, 1, (.slice va1 s.out.length vc1), s.out.length, u8s s.out), (5, 1, (.slice va2 s.disk.length vc2), s.disk.length, u8s s.disk), (5, 1, (.slice va3 s.queue.length vc3), s.queue.length, u8s s.queue), (25, 3, (.slice va4 s.script.length vc4), s.script.length, evsC s.script)]) := Lib.hid (HV.out.call hk4 hb4 hs4)
          clear hb4 hk4 hs4 HV
          go_wp2_with fail
          refine shut_grow _ hK (fun _ h => h) (HSO.out _ HV'.out.k) (fun hHeld => ?_)
          clear hK K
          have HV := HV'
          clear HV'
          refine wpAnyH_take (i := 45) (oi := { dst := some 52, op := Op.build 47 #[(5, Operand.tmp 11), (6, Operand.tmp 15), (7, Operand.tmp 21), (8, Operand.tmp 26), (9, Operand.tmp 31), (10, Operand.tmp 36), (11, Operand.tmp 41), (12, Operand.tmp 46), (13, Operand.tmp 51)], type := 47, pos := "save.go:14", after := #[{ on := 4, ground := Ground.data }, { on := 8, ground := Ground.data }, { on := 14, ground := Ground.data }, { on := 19, ground := Ground.data }, { on := 24, ground := Ground.data }, { on := 29, ground := Ground.data }, { on := 34, ground := Ground.data }, { on := 39, ground := Ground.data }, { on := 44, ground := Ground.data }], guard := none }) (v := ?_) rfl (by kernel_rfl) (by kernel_rfl) (by kernel_rfl) (fun _ _ _ h => h) (Or.inl ⟨by rfl, ?_⟩) (by assumption) ?_
          rotate_left
          focus (intro w hSw; (try dsimp only at hSw); go_simp <;> with_reducible rfl)
          try simp only [Act.put, List.setIfInBounds_toArray, List.set_cons_zero, List.set_cons_succ]

        rotate_left
        focus
          refine (cloneE_at ((HI.out.2.keep0 (K2.out.1.trans HV.out.k)).hsc.rd (evsC_one _)) (by have := HI.out.1.script.2; omega)).mono ?_
          rintro e x4 ⟨v4, rfl, hb4, hk4, hs4⟩
          obtain ⟨va4, vc4, rfl, _, _⟩ := hb4.shape
          have HV' : Hid (SvI y2 x4 none [(5, 1, (.slice va1 s.out.length vc1), s.out.length, u8s s.out), (5, 1, (.slice va2 s.disk.length vc2), s.disk.length, u8s s.disk), (5, 1, (.slice va3 s.queue.length vc3), s.queue.length, u8s s.queue), (25, 3, (.slice va4 s.script.length vc4), s.script.length, evsC s.script)]) := Lib.hid (HV.out.call hk4 hb4 hs4)
          clear hb4 hk4 hs4 HV
          go_wp2_with fail
          refine shut_grow _ hK (fun _ h => h) (HSO.out _ HV'.out.k) (fun hHeld => ?_)
          clear hK K
          have HV := HV'
          clear HV'
          refine wpAnyH_take (i := 45) (oi := { dst := some 52, op := Op.build 47 #[(5, Operand.tmp 11), (6, Operand.tmp 15), (7, Operand.tmp 21), (8, Operand.tmp 26), (9, Operand.tmp 31), (10, Operand.tmp 36), (11, Operand.tmp 41), (12, Operand.tmp 46), (13, Operand.tmp 51)], type := 47, pos := "save.go:14", after := #[{ on := 4, ground := Ground.data }, { on := 8, ground := Ground.data }, { on := 14, ground := Ground.data }, { on := 19, ground := Ground.data }, { on := 24, ground := Ground.data }, { on := 29, ground := Ground.data }, { on := 34, ground := Ground.data }, { on := 39, ground := Ground.data }, { on := 44, ground := Ground.data }], guard := none }) (v := ?_) rfl (by kernel_rfl) (by kernel_rfl) (by kernel_rfl) (fun _ _ _ h => h) (Or.inl ⟨by rfl, ?_⟩) (by assumption) ?_
          rotate_left
          focus (intro w hSw; (try dsimp only at hSw); go_simp <;> with_reducible rfl)
          try simp only [Act.put, List.setIfInBounds_toArray, List.set_cons_zero, List.set_cons_succ]
          refine wpAnyH_ready (rs := [46]) (by kernel_rfl) (by simp) ?_
          refine AllReadyH.cons (o := { dst := some 3, op := Op.alloc 47, type := 0, pos := "save.go:14", after := #[], guard := none }) rfl (fun K hK => ?_) AllReadyH.nil
          go_simp
          have HV' := HV.out.alloc (cs := zero35) rfl
          change K _ (World.alloc x4 (.cells zero35 47))
          generalize x4.heap.size = n3 at HV' ⊢
          generalize World.alloc x4 (.cells zero35 47) = xa at HV' ⊢
          clear HV
          have HV := Lib.hid HV'
          clear HV'
          refine shut_grow _ hK (fun _ h => h) (HSO.out _ HV.out.k) (fun hHeld => ?_)
          clear hK K

  all_goals
    obtain ⟨hn3, cs, hcs, hrow⟩ := HV.out.al n3 rfl
    have hb0 : b < y2.heap.size := lt_of_heap (K2.out.1.heap HI.out.2.cs (by simp))
    obtain ⟨z, hzz, hz, kyz, CB⟩ := HV.out.store (svArr (.slice va1 s.out.length vc1) (.slice va2 s.disk.length vc2) (.slice va3 s.queue.length vc3) (.slice va4 s.script.length vc4) s.bits s.mask s.bk s.ad s.st 0 0 0) rfl
    refine wpAnyH_ready (rs := [47]) (by kernel_rfl) (by simp) ?_
    refine AllReadyH.cons (o := { dst := none, op := Op.store 47 (Operand.tmp 3) (Operand.tmp 52), type := 0, pos := "save.go:14", after := #[{ on := 46, ground := Ground.data }, { on := 45, ground := Ground.data }, { on := 19, ground := Ground.chain }, { on := 0, ground := Ground.phase }, { on := 1, ground := Ground.phase }, { on := 2, ground := Ground.phase }, { on := 3, ground := Ground.phase }, { on := 4, ground := Ground.phase }, { on := 5, ground := Ground.phase }, { on := 6, ground := Ground.phase }, { on := 7, ground := Ground.phase }, { on := 8, ground := Ground.phase }, { on := 9, ground := Ground.phase }, { on := 10, ground := Ground.phase }, { on := 11, ground := Ground.phase }, { on := 12, ground := Ground.phase }, { on := 13, ground := Ground.phase }, { on := 14, ground := Ground.phase }, { on := 15, ground := Ground.phase }, { on := 16, ground := Ground.phase }, { on := 17, ground := Ground.phase }, { on := 18, ground := Ground.phase }, { on := 19, ground := Ground.phase }, { on := 20, ground := Ground.phase }, { on := 21, ground := Ground.phase }, { on := 22, ground := Ground.phase }, { on := 23, ground := Ground.phase }, { on := 24, ground := Ground.phase }, { on := 25, ground := Ground.phase }, { on := 26, ground := Ground.phase }, { on := 27, ground := Ground.phase }, { on := 28, ground := Ground.phase }, { on := 29, ground := Ground.phase }, { on := 30, ground := Ground.phase }, { on := 31, ground := Ground.phase }, { on := 32, ground := Ground.phase }, { on := 33, ground := Ground.phase }, { on := 34, ground := Ground.phase }, { on := 35, ground := Ground.phase }, { on := 36, ground := Ground.phase }, { on := 37, ground := Ground.phase }, { on := 38, ground := Ground.phase }, { on := 39, ground := Ground.phase }, { on := 40, ground := Ground.phase }, { on := 41, ground := Ground.phase }, { on := 42, ground := Ground.phase }, { on := 43, ground := Ground.phase }, { on := 44, ground := Ground.phase }, { on := 45, ground := Ground.phase }, { on := 46, ground := Ground.phase }], guard := none }) rfl (fun K hK => ?_) AllReadyH.nil
    rw [if_pos (by rfl)]
    refine wp_store_mid 47 (.tmp 3) (.tmp 52) (by rfl) n3 0 (svArr (.slice va1 s.out.length vc1) (.slice va2 s.disk.length vc2) (.slice va3 s.queue.length vc3) (.slice va4 s.script.length vc4) s.bits s.mask s.bk s.ad s.st 0 0 0) (by rfl) (by rfl) (there_row hrow _ (by rw [hcs]; exact Nat.le_refl _)) info_saved (svArr_one _ _ _ _ _ _ _ _ _ _ _ _ _ _ _ _ _ _ _ _) ?_
    rw [← hzz]
    have B1 := CB _ (.head _)
    have B2 := CB _ (.tail _ (.head _))
    have B3 := CB _ (.tail _ (.tail _ (.head _)))
    have B4 := CB _ (.tail _ (.tail _ (.tail _ (.head _))))
    refine shut_grow _ hK (fun _ h => h) (HSO.out _ kyz) (fun hHeld => ?_)
    clear hK K hHeld
    refine wpAnyH_done (by kernel_rfl) ?_ _
    have hz' := Lib.hid (And.intro hz (And.intro kyz (And.intro hn3 hb0)))
    have HC := Lib.hid (And.intro B1 (And.intro B2 (And.intro B3 B4)))
    clear hz kyz hn3 hb0 B1 B2 B3 B4 CB HV hrow hcs hzz
    obtain ⟨cs0, hcs0, hrow0⟩ := K2.out.2
    have H0z := Lib.hid (And.intro hcs0 (hz'.out.2.1.heap hrow0 (by simp)))
    clear hcs0 hrow0
    by_cases hst : s.st = 1
    · have t1 : decide (s.st = 1) = true := decide_eq_true hst
      have hbn : ¬ b = n3 := by have := hz'.out.2.2; omega
      have hnb : ¬ n3 = b := by omega
      have hh : z.heap[b]? = _ := hz'.out.2.1.heap (K2.out.1.heap HI.out.2.cs (by simp)) (by simp)
      have d7 : z.cell? ⟨b, 7, none⟩ = some (.int .u32 s.kd) := cell_of hh 7 rfl
      have d8 : z.cell? ⟨b, 8, none⟩ = some (.int .u32 s.fr) := cell_of hh 8 rfl
      have d9 : z.cell? ⟨b, 9, none⟩ = some (.int .u32 s.to) := cell_of hh 9 rfl
      have g32 : z.cell? ⟨n3, 32, none⟩ = some (.int .u32 (0 : Nat)) := cell_of hz'.out.1 32 rfl
      have g33 : z.cell? ⟨n3, 33, none⟩ = some (.int .u32 (0 : Nat)) := cell_of hz'.out.1 33 rfl
      have g34 : z.cell? ⟨n3, 34, none⟩ = some (.int .u32 (0 : Nat)) := cell_of hz'.out.1 34 rfl
      have fz := frozen_of hz'.out.1
      clear hh
      go_wp2_with (go_at_call 40; refine (busy_at (HSO.out _ hz'.out.2.1).2.2.2.2.2.1).mono ?_; rintro e zz ⟨rfl, hzq⟩; cases hzq)
      go_region
      have hb3 : ¬ b0 = n3 := by have := hz'.out.2.2.1; obtain ⟨cs1, h5, h6⟩ := K2.out.2; have := lt_of_heap h6; omega
      obtain ⟨z2, hz2⟩ : ∃ z2, z2 = ((z.setCell ⟨n3, 32, none⟩ (.int .u32 s.kd)).setCell ⟨n3, 33, none⟩ (.int .u32 s.fr)).setCell ⟨n3, 34, none⟩ (.int .u32 s.to) := ⟨_, rfl⟩
      rw [← hz2]
      have hR : z2.heap[n3]? = some (.cells (svArr (.slice va1 s.out.length vc1) (.slice va2 s.disk.length vc2) (.slice va3 s.queue.length vc3) (.slice va4 s.script.length vc4) s.bits s.mask s.bk s.ad s.st s.kd s.fr s.to) 47 (0, 0)) := by
        rw [hz2, heap_set_same (heap_set_same (heap_set_same hz'.out.1 32 _) 33 _) 34 _]; rfl
      have hkz : Keep [n3] z z2 := by rw [hz2]; exact (((Keep.refl _ _).setCell (.inl (by simp)) _).setCell (.inl (by simp)) _).setCell (.inl (by simp)) _
      have hA : z2.drew.rangeAt n3 0 _ := range_row (w := z2.drew) hR
      have hR0 : z2.drew.heap[b0]? = some (.cells cs0 47 (0, 0)) := hkz.heap H0z.out.2 (by simp [hb3])
      clear hz2
      go_wp2_with (first
        | (refine wpList_load_mid rfl 47 (.tmp 3) rfl n3 0 (by rfl) _ _ hA Try.underlying47 rfl info_saved ?_)
        | (refine wpList_store_mid rfl 47 (.tmp 2) (.tmp 78) (by rfl) b0 0 (svArr (.slice va1 s.out.length vc1) (.slice va2 s.disk.length vc2) (.slice va3 s.queue.length vc3) (.slice va4 s.script.length vc4) s.bits s.mask s.bk s.ad s.st s.kd s.fr s.to) (by rfl) (by rfl) (there_row hR0 _ (by rw [H0z.out.1]; exact Nat.le_refl _)) info_saved (svArr_one _ _ _ _ _ _ _ _ _ _ _ _ _ _ _ _ _ _ _ _) ?_))
      refine bodyPost_ret (results_cell_row rfl _ _ b0 _ _ _ _ rfl (store_row (A := (svArr (.slice va1 s.out.length vc1) (.slice va2 s.disk.length vc2) (.slice va3 s.queue.length vc3) (.slice va4 s.script.length vc4) s.bits s.mask s.bk s.ad s.st s.kd s.fr s.to)) hR0 (by rw [H0z.out.1]; rfl)) Try.underlying47 rfl (by kernel_rfl)) rfl ?_
      obtain ⟨cs1, h5, h6⟩ := K2.out.2
      have h7 := lt_of_heap h6
      have up : ∀ {v : Value}, (∀ j ∈ blk v, j ≠ n3 ∧ y2.heap.size ≤ j) → ∀ j ∈ blk v, j ≠ n3 ∧ b0 < j := fun h j hj => ⟨(h j hj).1, by have := (h j hj).2; omega⟩
      exact save_fin HI.out.1 K2.out.1 HW0.out.symm h7 hz'.out.2.1 hz'.out.2.2.1 ⟨HC.out.1.1, up HC.out.1.2⟩ ⟨HC.out.2.1.1, up HC.out.2.1.2⟩ ⟨HC.out.2.2.1.1, up HC.out.2.2.1.2⟩ ⟨HC.out.2.2.2.1, up HC.out.2.2.2.2⟩ ((hkz.drew.weaken (fun k hk _ => by simp at hk; simp [hk])).trans (keep_setCells (by simp) _ _ _ (Keep.refl _ _))) (by rw [if_pos hst]) (by rw [if_pos hst]) (by rw [if_pos hst])
    · have t1 : decide (s.st = 1) = false := decide_eq_false hst
      have hb3 : ¬ b0 = n3 := by have := hz'.out.2.2.1; obtain ⟨cs1, h5, h6⟩ := K2.out.2; have := lt_of_heap h6; omega
      have hA := range_row hz'.out.1
      have hR0 := H0z.out.2
      go_wp2_with (first
        | (go_at_call 40; refine (busy_at (HSO.out _ hz'.out.2.1).2.2.2.2.2.1).mono ?_; rintro e zz ⟨rfl, hzq⟩; cases hzq)
        | (refine wpList_load_mid rfl 47 (.tmp 3) rfl n3 0 (by rfl) _ _ hA Try.underlying47 rfl info_saved ?_)
        | (refine wpList_store_mid rfl 47 (.tmp 2) (.tmp 78) (by rfl) b0 0 (svArr (.slice va1 s.out.length vc1) (.slice va2 s.disk.length vc2) (.slice va3 s.queue.length vc3) (.slice va4 s.script.length vc4) s.bits s.mask s.bk s.ad s.st 0 0 0) (by rfl) (by rfl) (there_row hR0 _ (by rw [H0z.out.1]; exact Nat.le_refl _)) info_saved (svArr_one _ _ _ _ _ _ _ _ _ _ _ _ _ _ _ _ _ _ _ _) ?_))
      refine bodyPost_ret (results_cell_row rfl _ _ b0 _ _ _ _ rfl (store_row (A := (svArr (.slice va1 s.out.length vc1) (.slice va2 s.disk.length vc2) (.slice va3 s.queue.length vc3) (.slice va4 s.script.length vc4) s.bits s.mask s.bk s.ad s.st 0 0 0)) hR0 (by rw [H0z.out.1]; rfl)) Try.underlying47 rfl (by kernel_rfl)) rfl ?_
      obtain ⟨cs1, h5, h6⟩ := K2.out.2
      have h7 := lt_of_heap h6
      have up : ∀ {v : Value}, (∀ j ∈ blk v, j ≠ n3 ∧ y2.heap.size ≤ j) → ∀ j ∈ blk v, j ≠ n3 ∧ b0 < j := fun h j hj => ⟨(h j hj).1, by have := (h j hj).2; omega⟩
      exact save_fin HI.out.1 K2.out.1 HW0.out.symm h7 hz'.out.2.1 hz'.out.2.2.1 ⟨HC.out.1.1, up HC.out.1.2⟩ ⟨HC.out.2.1.1, up HC.out.2.1.2⟩ ⟨HC.out.2.2.1.1, up HC.out.2.2.1.2⟩ ⟨HC.out.2.2.2.1, up HC.out.2.2.2.2⟩ (keep_setCells (by simp) _ _ _ (Keep.refl _ _)) (by rw [if_neg hst]) (by rw [if_neg hst]) (by rw [if_neg hst])

end Go.Proofs.Ytgeakpeaohggoaa
