/- Contracts of the functions that the law reaches, walked, and the plain laws on them (several texts in one). -/
import Derived.Deep.MidRow
import Derived.Laws.Cover3
import Derived.Test.YtgeakpeaohggoaaM09

/- Devices: a disk of bytes; new devices. -/
namespace Go.Proofs.Ytgeakpeaohggoaa
open Go.RowKit Go.Mum
set_option linter.unusedVariables false
set_option linter.unusedSimpArgs false
set_option maxRecDepth 100000

def lenOf : Value → Nat | .slice _ n _ => n | _ => 0

theorem foldl_from : ∀ (cs : List Value) (z : Array Value) (o : Nat), z.size = o + cs.length → ((cs.zipIdx o).foldl (fun (a : Array Value) (p : Value × Nat) => a.setIfInBounds p.snd p.fst) z).toList = z.toList.take o ++ cs
  | [], z, o, h => by simp at h; simp [List.take_of_length_le, h]
  | v :: cs, z, o, h => by
    simp only [List.length_cons] at h
    rw [List.zipIdx_cons, List.foldl_cons, foldl_from cs _ (o + 1) (by simp; omega)]
    have ho : o < z.toList.length := by simp; omega
    rw [Array.toList_setIfInBounds, List.take_add_one, List.take_set_of_le (Nat.le_refl _)]
    simp only [List.getElem?_set_self ho]
    simp

theorem foldl_all (cs : List Value) (z : Array Value) (h : z.size = cs.length) : (cs.zipIdx.foldl (fun (a : Array Value) (p : Value × Nat) => a.setIfInBounds p.snd p.fst) z) = cs.toArray := by
  apply Array.toList_inj.1
  rw [foldl_from cs z 0 (by omega)]
  simp

section
variable {P : Program} {w : World} {o : Oper} {act : Act} {K : Act → World → Prop} {Q : Exit → Act → World → Prop}
/-- At the operation. -/
theorem wp_append_buf (s y : Operand) (t : TypeId) (ho : o.op = .call { callee := .builtin .append, args := #[s, y], argTypes := #[t, t] })
    (e : TypeId) (sz : Nat) (i : TypeInfo) (z : Value) (bytes : Nat) (ht : P.underlying t = some (.slice e)) (hi : P.info? e = some i) (hz : i.zero = some z)
    (hsize : i.size = sz) (hby : i.bytes = bytes) (v : Value) (n : Nat) (xs : List Value) (hsv : act.eval s = v) (h : Buf w e sz v n xs)
    (yv : Value) (m : Nat) (news : List Value) (hy : act.eval y = yv) (hs : Src P sz t yv m news w) (hzs : z.cells.size = sz)
    (h63 : n + m ≤ maxLen) (hbytes : (n + m) * bytes ≤ 140737488355328)
    (hK : ∀ v' w', Buf w' e sz v' (n + m) (xs ++ news) → Keep (blk v) w w' → (∀ k ∈ blk v', k ∈ blk v ∨ k = w.heap.size) → K (act.put o.dst v') w') : o.wp P act w K Q := by
  obtain ⟨v', w', hr, h2, h3, h4⟩ := run_append_buf (P := P) t o.type i z bytes ht hi hz hsize hby h yv m news hs hzs h63 hbytes
  unfold Oper.wp execOp
  simp only [ho, resolve, invoke, builtin, Sem.run_bind, Sem.run_pure, Result.andThen_ok, List.map_toArray, List.map_cons, List.map_nil, hsv, hy, hr]
  exact hK _ _ h2 h3 h4
end

theorem rangeAt_keep {w x : World} {l : List Nat} {b o : Nat} {cs : List Value} (h : w.rangeAt b o cs) (hk : Keep l w x) (hn : b ∉ l) : x.rangeAt b o cs := fun j v hv => hk.cell (h j v hv) hn

theorem info_block3 : (Try.prog.info? 113).map (fun i => (i.zero, i.size, i.bytes)) = some (some (.agg (Array.replicate 64 (.int .u8 0))), 64, 64) := by kernel_rfl

theorem info_block : (Try.prog.info? 113).map (·.size) = some 64 := by kernel_rfl

set_option maxHeartbeats 4000000 in
theorem laid_at {w : World} {a : Option Addr} {c : Nat} {D : List Int} (h : Row w a c D) (hn : D.length ≤ 2048) (hm : D.length % 64 = 0) :
    Calls Try.prog 36 #[.slice a D.length c] w fun e w' => ∃ v, e = .returned (.agg #[v, .int .u32 0, .int .u32 0, .int .u32 0, .int .u32 0, .int .u32 0, .int .u32 0]) ∧ Buf w' 113 64 v (D.length / 64) (u8s D) ∧ (∀ j ∈ blk v, w.heap.size ≤ j) ∧ Keep [] w w' := by
  obtain ⟨i0, hif, hz0, hz1, hz2⟩ := info_parts info_block3
  obtain ⟨N, hN⟩ : ∃ N, N = D.length / 64 := ⟨_, rfl⟩
  have hNl : D.length = N * 64 := by omega
  go_enter Try.func36, Try.ntmps36
  go_wp2_with fail
  obtain ⟨b0, hb0⟩ : ∃ b, b = w.heap.size := ⟨_, rfl⟩
  rw [← hb0]
  generalize hy : World.alloc (World.alloc w _) _ = y2
  have HY : Hid (y2.heap[b0]? = some (.cells #[.slice none 0 0, .int .u32 0, .int .u32 0, .int .u32 0, .int .u32 0, .int .u32 0, .int .u32 0] 72 (0, 0)) ∧ y2.heap[b0 + 1]? = some (.cells #[.slice none 0 0, .int .u32 0, .int .u32 0, .int .u32 0, .int .u32 0, .int .u32 0, .int .u32 0] 72 (0, 0)) ∧ Keep [] w y2) := Lib.hid (by
    subst hy
    exact ⟨heap_alloc_other _ (heap_alloc_at _ hb0), heap_alloc_at _ (by simp [hb0]), ((Keep.refl [] w).alloc _).alloc _⟩)
  clear hy
  have H := Lib.hid h
  have HN := Lib.hid hNl
  have HW0 := Lib.hid hb0
  clear h hNl hN hb0
  go_loopw [0, 4, 5, 6, 7, 8, 9, 10, 11, 12, 13, 14, 15, 16, 17] (fun i0 _ _ _ _ _ _ _ _ _ _ _ _ _ _ wr => ∃ (k m : Nat) (a' : Option Addr) (c' : Nat) (v : Value), i0 = .slice a' m c' ∧ m = D.length - k * 64 ∧ k ≤ N ∧ Hid (Row w a' c' (D.drop (k * 64)) ∧ wr.heap[b0]? = some (.cells #[.slice none 0 0, .int .u32 0, .int .u32 0, .int .u32 0, .int .u32 0, .int .u32 0, .int .u32 0] 72 (0, 0)) ∧
      wr.heap[b0 + 1]? = some (.cells #[v, .int .u32 0, .int .u32 0, .int .u32 0, .int .u32 0, .int .u32 0, .int .u32 0] 72 (0, 0)) ∧ Buf wr 113 64 v k (u8s (D.take (k * 64))) ∧ (∀ j ∈ blk v, b0 + 2 ≤ j) ∧ Keep [] w wr)) (fun i0 _ _ _ _ _ _ _ _ _ _ _ _ _ _ _ => lenOf i0)
  case atStart => exact ⟨0, D.length, a, c, .slice none 0 0, rfl, by omega, by omega, Lib.hid ⟨by simpa using H.out, HY.out.1, HY.out.2.1, by simpa [u8s] using Buf.nil _ _ _, by simp [blk], HY.out.2.2⟩⟩
  case round =>
    clear HY
    obtain ⟨k, m, a', c', v, rfl, hmk, hk, HI⟩ := hrel
    obtain ⟨va, vc, hv, hvc1, hvc2⟩ := HI.out.2.2.2.1.shape
    subst hv
    have hNl := HN.out
    have HMK := Lib.hid hmk
    have hN32 : N ≤ 32 := by omega
    by_cases hkN : k < N
    · have hm64 : 64 ≤ m := by omega
      have t1 : decide ((64 : Int) ≤ (m : Int)) = true := decide_eq_true (by omega)
      have t1' : (64 : Int) ≤ (m : Int) := by omega
      have hrl : (D.drop (k * 64)).length = m := by rw [List.length_drop, hmk]
      obtain ⟨rb, roff, rfl⟩ := HI.out.1.some_of (by omega)
      have hcap := HI.out.1.cap
      rw [hrl] at hcap
      have hc64 : 64 ≤ c' := by omega
      have hc64' : (64 : Int) ≤ (c' : Int) := by omega
      have hrow := HI.out.1.keep0 HI.out.2.2.2.2.2
      have hrange : wr.rangeAt rb roff (u8s ((D.drop (k * 64)).take 64)) := by
        intro j u hu
        rcases hrow.at' with ⟨h1, _⟩ | ⟨h1, _⟩ | ⟨b', off', e', hc⟩
        · cases h1
        · rw [h1] at hu; simp [u8s] at hu
        · cases e'
          have hj : j < ((D.drop (k * 64)).take 64).length := by
            rcases Nat.lt_or_ge j ((D.drop (k * 64)).take 64).length with h | h
            · exact h
            · rw [List.getElem?_eq_none (by simpa [u8s] using h)] at hu; cases hu
          rw [List.length_take, hrl] at hj
          rw [hc j (by omega)]
          simp only [u8s, List.getElem?_map] at hu
          rw [List.getElem?_take_of_lt (by omega)] at hu
          obtain ⟨y, hy, rfl⟩ := Option.map_eq_some_iff.1 hu
          rw [List.getD, hy]; rfl
      have hl64 : (u8s ((D.drop (k * 64)).take 64)).length = 64 := by rw [u8s_length, List.length_take]; omega
      have hDk : D.take (k * 64) ++ (D.drop (k * 64)).take 64 = D.take ((k + 1) * 64) := by
        rw [show (k + 1) * 64 = k * 64 + 64 by omega, List.take_add]
      generalize hB : (D.drop (k * 64)).take 64 = B at hrange hl64 hDk
      have hd0 : wr.cell? ⟨b0 + 1, 0, none⟩ = some (.slice va k vc) := cell_of HI.out.2.2.1 0 rfl
      have HG := Lib.hid (And.intro hl64 (And.intro hDk (And.intro hrl hrange)))
      clear hrow hB hl64 hDk hrl hmk hNl
      have hat : ∀ w, (Instr.arrayAt 113 (.slice (some ⟨rb, roff, none⟩) 64 c')).run Try.prog w = .ok (.pointer (some ⟨rb, roff, none⟩)) w := fun w => run_arrayAt w _ _ 64 _ 64 c' Try.underlying113 (Nat.le_refl _)
      go_wp2_with fail
      refine wp_region_held_drew (S := fun z => z.rangeAt rb roff (u8s B)) (by kernel_rfl) (by simpa using hrange) (fun hHeld => ?_)
      have hrb0 : rb < b0 := by
        rcases HI.out.1.at' with ⟨h3, _⟩ | ⟨h3, _⟩ | ⟨b', off', e', hc⟩
        · cases h3
        · exfalso; have := HG.out.2.2.1; rw [h3] at this; simp at this; omega
        · cases e'
          have := World.block_lt_of_cell? w _ (hc 0 (by rw [HG.out.2.2.1]; omega))
          have := HW0.out
          simp only at *
          omega
      have hd1 : (World.drew wr).cell? ⟨b0 + 1, 0, none⟩ = some (.slice va k vc) := hd0
      generalize hwd : World.drew wr = wd at hHeld hd1 ⊢
      have HWD : Hid (Keep [] wr wd) := Lib.hid (by subst hwd; exact (Keep.refl [] _).drew)
      clear hrange hd0 hwd
      skip
      refine wpAnyH_take (i := 0) (oi := { dst := some 7, op := Op.fieldAddr 72 (Operand.tmp 3) 0, type := 0, pos := "disk.go:32", after := #[], guard := none }) (v := ?_) rfl (by kernel_rfl) (by kernel_rfl) (by kernel_rfl) (fun _ _ _ h => h) (Or.inl ⟨by rfl, ?_⟩) (by assumption) ?_
      rotate_left
      focus (intro w hSw; (try dsimp only at hSw); go_simp <;> with_reducible rfl)
      try simp only [Act.put, List.setIfInBounds_toArray, List.set_cons_zero, List.set_cons_succ]
      refine wpAnyH_take (i := 2) (oi := { dst := some 9, op := Op.move (Operand.tmp 0), type := 22, pos := "disk.go:32", after := #[], guard := none }) (v := ?_) rfl (by kernel_rfl) (by kernel_rfl) (by kernel_rfl) (fun _ _ _ h => h) (Or.inl ⟨by rfl, ?_⟩) (by assumption) ?_
      rotate_left
      focus (intro w hSw; (try dsimp only at hSw); go_simp <;> with_reducible rfl)
      try simp only [Act.put, List.setIfInBounds_toArray, List.set_cons_zero, List.set_cons_succ]
      refine wpAnyH_take (i := 3) (oi := { dst := some 10, op := Op.slice 22 (Operand.tmp 9) none (some (Operand.const (Value.int IntKind.i64 64))) none, type := 22, pos := "disk.go:32", after := #[{ on := 2, ground := Ground.data }], guard := none }) (v := ?_) rfl (by kernel_rfl) (by kernel_rfl) (by kernel_rfl) (fun _ _ _ h => h) (Or.inl ⟨by rfl, ?_⟩) (by assumption) ?_
      rotate_left
      focus (intro w hSw; (try dsimp only at hSw); go_simp <;> with_reducible rfl)
      try simp only [Act.put, List.setIfInBounds_toArray, List.set_cons_zero, List.set_cons_succ]
      refine wpAnyH_take (i := 4) (oi := { dst := some 11, op := Op.sliceToArrayPointer 113 (Operand.tmp 10), type := 0, pos := "disk.go:32", after := #[{ on := 3, ground := Ground.data }], guard := none }) (v := ?_) rfl (by kernel_rfl) (by kernel_rfl) (by kernel_rfl) (fun _ _ _ h => h) (Or.inl ⟨by rfl, ?_⟩) (by assumption) ?_
      rotate_left
      focus (intro w hSw; (try dsimp only at hSw); go_simp <;> with_reducible rfl)
      try simp only [Act.put, List.setIfInBounds_toArray, List.set_cons_zero, List.set_cons_succ]
      refine wpAnyH_take (i := 5) (oi := { dst := some 12, op := Op.load 113 (Operand.tmp 11), type := 113, pos := "disk.go:32", after := #[{ on := 4, ground := Ground.data }], guard := none }) (v := _) rfl (by kernel_rfl) (by kernel_rfl) (by kernel_rfl) (fun _ _ _ h => h) (yieldsIf_load_mid (by rfl) 113 (.tmp 11) rfl rb roff rfl (u8s B) _ (fun _ h => h) Try.underlying113 rfl (by rw [HG.out.1]; exact info_block)) (by assumption) ?_
      try simp only [Act.put, List.setIfInBounds_toArray, List.set_cons_zero, List.set_cons_succ]
      have kA : Keep [] wd (wd.alloc (.cells (u8s B).toArray 113)) := (Keep.refl _ _).alloc _
      have hA : (wd.alloc (.cells (u8s B).toArray 113)).heap[wd.heap.size]? = some (.cells (u8s B).toArray 113 (0, 0)) := heap_alloc_at _ rfl
      have hAs : wr.heap.size ≤ wd.heap.size := HWD.out.size
      have hAs2 : (wd.alloc (.cells (u8s B).toArray 113)).heap.size = wd.heap.size + 1 := by simp
      have hd2 := kA.cell hd1 (by simp)
      refine wpAnyH_ready (rs := [1, 6]) (by kernel_rfl) (by simp) ?_
      refine AllReadyH.cons (o := { dst := some 8, op := Op.load 68 (Operand.tmp 7), type := 68, pos := "disk.go:32", after := #[{ on := 0, ground := Ground.data }], guard := none }) rfl (fun K hK => ?_) (AllReadyH.cons (o := { dst := some 13, op := Op.buildSlice 68 1 #[(0, Operand.tmp 12)], type := 68, pos := "disk.go:32", after := #[{ on := 5, ground := Ground.data }], guard := none }) rfl (fun K hK => ?_) AllReadyH.nil)
      all_goals go_simp
      focus
        refine shut_grow _ hK (fun _ h => h) hHeld (fun hHeld1 => ?_)
        clear hK K
        refine wpAnyH_ready (rs := [6]) (by kernel_rfl) (by simp) ?_
        refine AllReadyH.cons (o := { dst := some 13, op := Op.buildSlice 68 1 #[(0, Operand.tmp 12)], type := 68, pos := "disk.go:32", after := #[{ on := 5, ground := Ground.data }], guard := none }) rfl (fun K hK => ?_) AllReadyH.nil
        go_simp
        rw [if_neg (by have := HG.out.1; omega), foldl_all _ _ (by rw [HG.out.1]; rfl)]
        go_simp
        generalize wd.alloc (.cells (u8s B).toArray 113) = wa at kA hA hAs2 hd2 ⊢
        generalize wd.heap.size = nd at hA hAs hAs2 ⊢
        refine shut_grow _ hK (fun _ h => h) (rangeAt_keep hHeld kA (by simp)) (fun hHeld1 => ?_)
        clear hK K
      rotate_left
      focus
        rw [if_neg (by have := HG.out.1; omega), foldl_all _ _ (by rw [HG.out.1]; rfl)]
        go_simp
        generalize wd.alloc (.cells (u8s B).toArray 113) = wa at kA hA hAs2 hd2 ⊢
        generalize wd.heap.size = nd at hA hAs hAs2 ⊢
        refine shut_grow _ hK (fun _ h => h) (rangeAt_keep hHeld kA (by simp)) (fun hHeld1 => ?_)
        clear hK K
        refine wpAnyH_ready (rs := [1]) (by kernel_rfl) (by simp) ?_
        refine AllReadyH.cons (o := { dst := some 8, op := Op.load 68 (Operand.tmp 7), type := 68, pos := "disk.go:32", after := #[{ on := 0, ground := Ground.data }], guard := none }) rfl (fun K hK => ?_) AllReadyH.nil
        go_simp
        refine shut_grow _ hK (fun _ h => h) (rangeAt_keep hHeld kA (by simp)) (fun hHeld1 => ?_)
        clear hK K
      all_goals
        have hB1 := (HI.out.2.2.2.1.keep0 HWD.out).keep0 kA
        refine wpAnyH_ready (rs := [7]) (by kernel_rfl) (by simp) ?_
        refine AllReadyH.cons (o := { dst := some 14, op := Op.call { callee := Callee.builtin Builtin.append, args := #[Operand.tmp 8, Operand.tmp 13], argTypes := #[68, 68] }, type := 68, pos := "disk.go:32", after := #[{ on := 1, ground := Ground.data }, { on := 6, ground := Ground.data }], guard := none }) rfl (fun K hK => ?_) AllReadyH.nil
        rw [if_pos (by rfl)]
        refine wp_append_buf (.tmp 8) (.tmp 13) 68 rfl 113 64 i0 (.agg (Array.replicate 64 (.int .u8 0))) 64 Try.underlying68 hif hz0 hz1 hz2 (.slice va k vc) k _ (by rfl) hB1 (.slice (some ⟨nd, 0, none⟩) 1 1) 1 (u8s B) (by rfl) (Src.ofSlice _ Try.underlying68 ⟨nd, 0, none⟩ 1 1 (u8s B) (by rw [HG.out.1]) (World.news_of_block (cs := (u8s B).toArray) hA) (by intro u hu; obtain ⟨z, _, rfl⟩ := List.mem_map.1 hu; rfl)) rfl (by unfold maxLen; omega) (by omega) ?_
        intro v' w1 hb1 hk1 hs1
        have hnb : ∀ i, i < 2 → b0 + i ∉ blk (.slice va k vc) := fun i hi hm => by have := HI.out.2.2.2.2.1 _ hm; omega
        have hrb : rb ∉ blk (.slice va k vc) := fun hm => by have h1 := HI.out.2.2.2.2.1 _ hm; omega
        have kW : Keep [] wr wa := HWD.out.trans kA
        have h1 := hk1.heap (kW.heap HI.out.2.2.1 (by simp)) (hnb 1 (by omega))
        have h0 := hk1.heap (kW.heap HI.out.2.1 (by simp)) (hnb 0 (by omega))
        have kF : Keep [] w w1 := (HI.out.2.2.2.2.2.trans kW).then hk1 (fun j hj hlt => by have := HI.out.2.2.2.2.1 j hj; have := HW0.out; omega)
        have c1 : w1.cell? ⟨b0 + 1, 0, none⟩ = some (.slice va k vc) := cell_of h1 0 rfl
        have f1 := frozen_of h1
        obtain ⟨va', vc', hv', hvc1', hvc2'⟩ := hb1.shape
        subst hv'
        have hsz : b0 + 2 ≤ wr.heap.size := lt_of_heap HI.out.2.2.1
        have HF : Hid ((w1.setCell ⟨b0 + 1, 0, none⟩ (.slice va' (k + 1) vc')).heap[b0]? = some (.cells #[.slice none 0 0, .int .u32 0, .int .u32 0, .int .u32 0, .int .u32 0, .int .u32 0, .int .u32 0] 72 (0, 0)) ∧
            (w1.setCell ⟨b0 + 1, 0, none⟩ (.slice va' (k + 1) vc')).heap[b0 + 1]? = some (.cells #[.slice va' (k + 1) vc', .int .u32 0, .int .u32 0, .int .u32 0, .int .u32 0, .int .u32 0, .int .u32 0] 72 (0, 0)) ∧
            Buf (w1.setCell ⟨b0 + 1, 0, none⟩ (.slice va' (k + 1) vc')) 113 64 (.slice va' (k + 1) vc') (k + 1) (u8s (D.take ((k + 1) * 64))) ∧ (∀ j ∈ blk (.slice va' (k + 1) vc'), b0 + 2 ≤ j) ∧ Keep [] w (w1.setCell ⟨b0 + 1, 0, none⟩ (.slice va' (k + 1) vc'))) := Lib.hid (by
          have hfr : ∀ j ∈ blk (.slice va' (k + 1) vc'), b0 + 2 ≤ j := fun j hj => by
            rcases hs1 j hj with h | h
            · exact HI.out.2.2.2.2.1 j h
            · omega
          refine ⟨(heap_set_other (by omega) _ _).trans h0, (heap_set_same h1 0 _).trans rfl, ?_, hfr, kF.setCell (.inr (by have := HW0.out; simp; omega)) _⟩
          have hb2 : Buf w1 113 64 (.slice va' (k + 1) vc') (k + 1) (u8s (D.take ((k + 1) * 64))) := by
            rw [← HG.out.2.1, u8s_append]; exact hb1
          exact hb2.keep ((Keep.refl [b0 + 1] _).setCell (.inl (by simp)) _) (fun j hj hm => by simp at hm; have := hfr j hj; omega))
        have hS3 := rangeAt_keep hHeld1 hk1 hrb
        refine shut_grow _ hK (fun _ h => h) hS3 (fun hHeld2 => ?_)
        clear hK K hb1 hk1 hs1 h1 h0 hHeld1 hHeld
        refine wpAnyH_take (i := 8) (oi := { dst := some 15, op := Op.fieldAddr 72 (Operand.tmp 3) 0, type := 0, pos := "disk.go:32", after := #[{ on := 0, ground := Ground.phase }, { on := 1, ground := Ground.phase }, { on := 2, ground := Ground.phase }, { on := 3, ground := Ground.phase }, { on := 4, ground := Ground.phase }, { on := 5, ground := Ground.phase }, { on := 6, ground := Ground.phase }, { on := 7, ground := Ground.phase }], guard := none }) (v := ?_) rfl (by kernel_rfl) (by kernel_rfl) (by kernel_rfl) (fun _ _ _ h => h) (Or.inl ⟨by rfl, ?_⟩) (by assumption) ?_
        rotate_left
        focus (intro w hSw; (try dsimp only at hSw); go_simp <;> with_reducible rfl)
        try simp only [Act.put, List.setIfInBounds_toArray, List.set_cons_zero, List.set_cons_succ]
        refine wpAnyH_ready (rs := [9]) (by kernel_rfl) (by simp) ?_
        refine AllReadyH.cons (o := { dst := none, op := Op.store 68 (Operand.tmp 15) (Operand.tmp 14), type := 0, pos := "disk.go:32", after := #[{ on := 8, ground := Ground.data }, { on := 7, ground := Ground.data }, { on := 7, ground := Ground.chain }, { on := 0, ground := Ground.phase }, { on := 1, ground := Ground.phase }, { on := 2, ground := Ground.phase }, { on := 3, ground := Ground.phase }, { on := 4, ground := Ground.phase }, { on := 5, ground := Ground.phase }, { on := 6, ground := Ground.phase }, { on := 7, ground := Ground.phase }], guard := none }) rfl (fun K hK => ?_) AllReadyH.nil
        go_simp
        refine shut_grow (fun z => z = w1.setCell ⟨b0 + 1, 0, none⟩ (.slice va' (k + 1) vc')) hK (fun z hz => by
          rw [hz]
          exact rangeAt_keep hS3 ((Keep.refl [b0 + 1] _).setCell (.inl (by simp)) _) (by simp; omega)) rfl (fun hHeld4 => ?_)
        clear hK K hHeld2 hHeld4
        refine wpAnyH_done (by kernel_rfl) ?_ _
        by_cases h64 : c' = 64
        · subst h64
          obtain rfl : m = 64 := by omega
          go_wp2_with fail
          refine ⟨⟨k + 1, 0, _, 0, _, rfl, by have := HMK.out; omega, by omega, Lib.hid ⟨?_, HF.out.1, HF.out.2.1, HF.out.2.2.1, HF.out.2.2.2.1, HF.out.2.2.2.2⟩⟩, by simp [lenOf]⟩
          have hnil : D.drop ((k + 1) * 64) = [] := List.drop_eq_nil_of_le (by have := HMK.out; omega)
          rw [hnil]
          exact ⟨fun x hx => (by cases hx), ⟨Nat.le_refl _, by unfold maxLen; omega⟩, .inr (.inl ⟨rfl, _, rfl⟩)⟩
        · go_wp2_with fail
          refine ⟨⟨k + 1, m - 64, _, c' - 64, _, rfl, by have := HMK.out; omega, by omega, Lib.hid ⟨?_, HF.out.1, HF.out.2.1, HF.out.2.2.1, HF.out.2.2.2.1, HF.out.2.2.2.2⟩⟩, by simp [lenOf]; omega⟩
          have hd := HI.out.1.drop 64 (by rw [HG.out.2.2.1]; omega)
          rw [List.drop_drop] at hd
          rwa [show (k + 1) * 64 = k * 64 + 64 by omega]
    · have hm0 : m = 0 := by omega
      have t1 : decide ((64 : Int) ≤ (m : Int)) = false := decide_eq_false (by omega)
      have t1' : ¬ 64 ≤ m := by omega
      have e0 : ∀ i u, #[Value.slice none 0 0, .int .u32 0, .int .u32 0, .int .u32 0, .int .u32 0, .int .u32 0, .int .u32 0][i]? = some u → wr.cell? ⟨b0, i, none⟩ = some u := fun i u hu => cell_of HI.out.2.1 i hu
      have a0 := e0 0 _ rfl
      have a1 := e0 1 _ rfl
      have a2 := e0 2 _ rfl
      have a3 := e0 3 _ rfl
      have a4 := e0 4 _ rfl
      have a5 := e0 5 _ rfl
      have a6 := e0 6 _ rfl
      have c0 : wr.cell? ⟨b0 + 1, 0, none⟩ = some (.slice va k vc) := cell_of HI.out.2.2.1 0 rfl
      have c1 : wr.cell? ⟨b0 + 1, 1, none⟩ = some (.int .u32 0) := cell_of HI.out.2.2.1 1 rfl
      have c2 : wr.cell? ⟨b0 + 1, 2, none⟩ = some (.int .u32 0) := cell_of HI.out.2.2.1 2 rfl
      have c3 : wr.cell? ⟨b0 + 1, 3, none⟩ = some (.int .u32 0) := cell_of HI.out.2.2.1 3 rfl
      have c4 : wr.cell? ⟨b0 + 1, 4, none⟩ = some (.int .u32 0) := cell_of HI.out.2.2.1 4 rfl
      have c5 : wr.cell? ⟨b0 + 1, 5, none⟩ = some (.int .u32 0) := cell_of HI.out.2.2.1 5 rfl
      have c6 : wr.cell? ⟨b0 + 1, 6, none⟩ = some (.int .u32 0) := cell_of HI.out.2.2.1 6 rfl
      have f0 := frozen_of HI.out.2.1
      clear e0 hmk
      go_wp2_with fail
      have hb : (((((((wr.setCell ⟨b0, 0, none⟩ (.slice va k vc)).setCell ⟨b0, 1, none⟩ (.int .u32 0)).setCell ⟨b0, 2, none⟩ (.int .u32 0)).setCell ⟨b0, 3, none⟩ (.int .u32 0)).setCell ⟨b0, 4, none⟩ (.int .u32 0)).setCell ⟨b0, 5, none⟩ (.int .u32 0)).setCell ⟨b0, 6, none⟩ (.int .u32 0)).heap[b0]? = some (.cells #[.slice va k vc, .int .u32 0, .int .u32 0, .int .u32 0, .int .u32 0, .int .u32 0, .int .u32 0] 72 (0, 0)) := by
        rw [heap_set_same (heap_set_same (heap_set_same (heap_set_same (heap_set_same (heap_set_same (heap_set_same HI.out.2.1 0 _) 1 _) 2 _) 3 _) 4 _) 5 _) 6 _]; rfl
      refine bodyPost_ret (results_cell_row rfl _ _ b0 _ _ _ _ rfl hb Try.underlying72 rfl (by kernel_rfl)) rfl ?_
      have hk0 : k = D.length / 64 := by omega
      have hw0 := HW0.out
      have hkb : ∀ x, Keep [b0] wr x → Keep [] w x := fun x hx => HI.out.2.2.2.2.2.then hx (fun j hj hlt => by simp at hj; omega)
      have kb : Keep [b0] wr (((((((wr.setCell ⟨b0, 0, none⟩ (.slice va k vc)).setCell ⟨b0, 1, none⟩ (.int .u32 0)).setCell ⟨b0, 2, none⟩ (.int .u32 0)).setCell ⟨b0, 3, none⟩ (.int .u32 0)).setCell ⟨b0, 4, none⟩ (.int .u32 0)).setCell ⟨b0, 5, none⟩ (.int .u32 0)).setCell ⟨b0, 6, none⟩ (.int .u32 0)) :=
        (((((((Keep.refl _ _).setCell (.inl (by simp)) _).setCell (.inl (by simp)) _).setCell (.inl (by simp)) _).setCell (.inl (by simp)) _).setCell (.inl (by simp)) _).setCell (.inl (by simp)) _).setCell (.inl (by simp)) _
      refine ⟨_, rfl, ?_, fun j hj => by have := HI.out.2.2.2.2.1 j hj; omega, hkb _ kb⟩
      rw [← hk0]
      have := HI.out.2.2.2.1
      rw [List.take_of_length_le (by omega)] at this
      exact this.keep kb (fun j hj hm => by simp at hm; have := HI.out.2.2.2.2.1 j hj; omega)

/-- New devices. -/
def newD (L : List Ev) (D : List Int) : DS := ⟨0, 0, [], D, 0, 0, 0, 0, 0, 0, L, []⟩

theorem newD_ok {L : List Ev} {D : List Int} (hL : ∀ e ∈ L, e.May ∧ e.Ok) (hn : L.length ≤ 64) (hD : IsBytes D ∧ D.length ≤ 2048 ∧ D.length % 64 = 0) : (newD L D).Ok := by
  have hb : IsBytes [] := fun x hx => by cases hx
  refine ⟨?_, ?_, ⟨hb, ?_⟩, hD, ?_, ?_, ?_, ?_, ?_, ?_, ⟨hL, hn⟩, ⟨hb, ?_⟩⟩ <;> simp [newD]

set_option maxHeartbeats 2000000 in
theorem new_ok {w : World} {a a2 : Option Addr} {c c2 : Nat} {L : List Ev} {D : List Int} (h : Rd w 3 a L.length c (evsC L)) (hok : ∀ e ∈ L, e.Ok) (hr : Row w a2 c2 D) (he : errS L D.length = 0) :
    Calls Try.prog 11 #[.slice a L.length c, .slice a2 D.length c2] w fun e w' => ∃ b F, e = .returned (.tuple #[.pointer (some ⟨b, 0, none⟩), .int .i64 0]) ∧ DvAt w' b F (newD L D) ∧ Keep [] w w' ∧ ∀ k ∈ F, w.heap.size ≤ k := by
  obtain ⟨hn, hd, hm, hd64⟩ := errS_zero he
  have hOK := newD_ok (fun e he => ⟨(mayB_iff e).1 (hm e he), hok e he⟩) hn ⟨hr.bytes, hd, hd64⟩
  obtain ⟨n, hnl⟩ : ∃ n, n = L.length := ⟨_, rfl⟩
  obtain ⟨dn, hdl⟩ : ∃ dn, dn = D.length := ⟨_, rfl⟩
  have LA : ∀ x, Keep [] w x → Calls Try.prog 36 #[.slice a2 dn c2] x fun e w' => ∃ v, e = .returned (.agg #[v, .int .u32 0, .int .u32 0, .int .u32 0, .int .u32 0, .int .u32 0, .int .u32 0]) ∧ Buf w' 113 64 v (D.length / 64) (u8s D) ∧ (∀ j ∈ blk v, x.heap.size ≤ j) ∧ Keep [] x w' := fun x hk => by
    rw [hdl]; exact laid_at (hr.keep0 hk) hd hd64
  have HLA := Lib.hid LA
  rw [← hnl] at h hn ⊢
  rw [← hdl] at hd hd64 ⊢
  have t1 : decide ((64 : Int) < (n : Int)) = false := decide_eq_false (by omega)
  have t1b : decide ((2048 : Int) < (dn : Int)) = false := decide_eq_false (by omega)
  have td : (dn : Int).tmod 64 = (dn : Int) % 64 := Int.tmod_eq_emod_of_nonneg (by omega)
  have td0 : ((dn : Int) % 64 != 0) = false := by simp; omega
  have td1 : ((dn : Int) % 64 == 0) = true := by simp; omega
  have td2 : (dn : Int) % 64 = 0 := by omega
  have H := Lib.hid h
  have hcn := h.cap
  have hcd := hr.cap
  rw [← hdl] at hcd
  have hcd' : dn ≤ maxLen := by omega
  have hcn' : n ≤ maxLen := by omega
  have hdn63 : dn ≤ 9223372036854775807 := by unfold maxLen at hcd'; omega
  have hM := Lib.hid hm
  have HNL := Lib.hid hnl
  clear hm hok h hnl LA hr hdl he hcd hcn hcd' hcn'
  go_enter Try.func11, Try.ntmps11
  go_wp2
  go_loopw [7, 18, 19, 20, 21, 22, 23, 24, 25] (fun _ i _ _ _ _ _ _ _ wr => ∃ k : Nat, k ≤ n ∧ i = .int .i64 k ∧ Keep [] w wr) (fun _ i _ _ _ _ _ _ _ _ => n - (intOf i).toNat)
  case atStart => exact ⟨0, by omega, rfl, Keep.refl _ _⟩
  case round =>
    obtain ⟨k, hk, rfl, hK⟩ := hrel
    by_cases hkn : k < n
    · have hkL : k < L.length := by rw [← HNL.out]; exact hkn
      obtain ⟨e, he⟩ : ∃ e, L[k]? = some e := ⟨L[k], by simp⟩
      have hme := hM.out e (List.mem_of_getElem? he)
      obtain ⟨g1, g2, g3⟩ := evsC_get he
      obtain ⟨h0, _⟩ | ⟨b, off, rfl, hc⟩ := H.out.at'.imp (fun h => And.intro h trivial) id
      · omega
      have c0 := hK.cell (hc _ _ g1) (by simp)
      have c1 : wr.cell? ⟨b, off + k * 3 + 1, none⟩ = some (.int .i64 e.kd) := hK.cell (hc _ _ g2) (by simp)
      have c2' : wr.cell? ⟨b, off + k * 3 + 2, none⟩ = some (.int .u8 e.by') := hK.cell (hc _ _ g3) (by simp)
      have fz : ∀ cs t i, (wr.alloc (.cells cs t)).frozen? ⟨wr.heap.size, i, none⟩ = false := fun cs t i => frozen_of (heap_alloc_at _ rfl) i
      have t2 : decide ((k : Int) < (n : Int)) = true := decide_eq_true (by omega)
      have HK := Lib.hid hK
      have w1 : IntKind.i64.wrap ((k : Int) + 1) = (k : Int) + 1 := by rw [IntKind.wrap_i64]; omega
      clear hK g1 g2 g3 hc hkL he
      go_wp2_with (go_at_call 34; refine (may_at _ e).mono ?_; rintro r w2 ⟨rfl, hk2⟩; rw [hme]; have H2 := Lib.hid hk2; clear hk2)
      go_roundw
      case rel => exact ⟨k + 1, by omega, by go_num, (HK.out.alloc _).trans H2.out⟩
      case measure => simp [intOf]; omega
    · obtain rfl : k = n := by omega
      have t2 : decide ((k : Int) < (k : Int)) = false := decide_eq_false (by omega)
      have HK := Lib.hid hK
      clear hK
      go_wp2_with (first | (go_at_call 35; refine (cloneE_at (H.out.keep0 HK.out) (by omega)).mono ?_; rintro e w2 ⟨v, rfl, hb, hk2, hs⟩; obtain ⟨va, vc, rfl, _, _⟩ := hb.shape; have H2 := Lib.hid (And.intro hb (And.intro hk2 hs)); clear hb hk2 hs) | (go_at_call 36; refine (HLA.out _ (HK.out.trans H2.out.2.1)).mono ?_; rintro e w3 ⟨v3, rfl, hb3, hs3, hk3⟩; have H3 := Lib.hid (And.intro hb3 (And.intro hs3 hk3)); obtain ⟨v3a, v3c, rfl, _, _⟩ := hb3.shape; clear hb3 hs3 hk3))
      go_ret2
      obtain ⟨hb, hk2, hs⟩ := H2.out
      obtain ⟨hb3, hs3, hk3⟩ := H3.out
      have hkL := HNL.out
      have z1 := HK.out.size
      have z2 := hk2.size
      have z3 := hk3.size
      have kA : Keep [] w3 (w3.alloc (.cells (dvC (newD L D) (.slice none 0 0) (.slice v3a (D.length / 64) v3c) (.slice va k vc) (.slice none 0 0)) 74)) := (Keep.refl [] w3).alloc _
      have l2 : ∀ j ∈ blk (.slice va k vc), wr.heap.size ≤ j ∧ j < w2.heap.size := fun j hj => ⟨hs j hj, hb.lt j hj⟩
      have l3 : ∀ j ∈ blk (.slice v3a (D.length / 64) v3c), w2.heap.size ≤ j ∧ j < w3.heap.size := fun j hj => ⟨hs3 j hj, hb3.lt j hj⟩
      refine ⟨w3.heap.size, _, rfl, ⟨hOK, .slice none 0 0, .slice v3a (D.length / 64) v3c, .slice va k vc, .slice none 0 0, ⟨heap_alloc_at _ rfl, Buf.nil _ _ _, hb3.keep0 kA, ?_, Buf.nil _ _ _, ?_⟩, rfl⟩, ((HK.out.trans hk2).trans hk3).alloc _, ?_⟩
      · have := (hb.keep0 hk3).keep0 kA
        rw [show (newD L D).script.length = k from hkL.symm]
        exact this
      · simp only [Aps, List.pairwise_cons]
        refine ⟨?_, ?_, ?_, ?_, ?_, List.Pairwise.nil⟩
        · intro a' ha' j hj hm
          simp at hj; subst hj
          simp only [List.mem_cons, List.not_mem_nil, or_false] at ha'
          rcases ha' with rfl | rfl | rfl | rfl
          · simp [blk] at hm
          · have := l3 _ hm; omega
          · have := l2 _ hm; omega
          · simp [blk] at hm
        · intro a' _ j hj; simp [blk] at hj
        · intro a' ha' j hj hm
          simp only [List.mem_cons, List.not_mem_nil, or_false] at ha'
          rcases ha' with rfl | rfl
          · have := l3 _ hj; have := l2 _ hm; omega
          · simp [blk] at hm
        · intro a' ha' j _ hm; simp only [List.mem_cons, List.not_mem_nil, or_false] at ha'; subst ha'; simp [blk] at hm
        · intro a' ha'; simp at ha'
      · intro j hj
        simp only [List.mem_cons, List.mem_append] at hj
        rcases hj with rfl | ((hj | hj) | hj) | hj
        · omega
        · simp [blk] at hj
        · have := l3 j hj; omega
        · have := l2 j hj; omega
        · simp [blk] at hj

end Go.Proofs.Ytgeakpeaohggoaa
