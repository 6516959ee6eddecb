/- Contracts of the functions that the law reaches, walked, and the plain laws on them (several texts in one). -/
import Derived.Maps.AppendAt
import Derived.Deep.AppendLies
import Derived.Test.YtgeakpeaohggoaaM05

/- Devices: the events come where there is no memory: the walk. -/
namespace Go.Proofs.Ytgeakpeaohggoaa
open Go.RowKit Go.Mum Go.Shelf
set_option linter.unusedVariables false
set_option linter.unusedSimpArgs false
set_option maxRecDepth 100000

attribute [local go_sem] Oper.semAt_some

section
variable {F : Fence} {n : Nat} {P : Program} {w : World} {ops : Array Oper} {rest : List Oper} {o : Oper} {act : Act} {Q : Exit → Act → World → Prop}

theorem wpListIn_append_buf (hgd : o.guard = none) (s y : Operand) (t : TypeId) (ho : o.op = .call { callee := .builtin .append, args := #[s, y], argTypes := #[t, t] })
    (e : TypeId) (sz : Nat) (i : TypeInfo) (z : Value) (bytes : Nat) (ht : P.underlying t = some (.slice e)) (hi : P.info? e = some i) (hz : i.zero = some z)
    (hsize : i.size = sz) (hby : i.bytes = bytes) (v : Value) (k : Nat) (xs : List Value) (hsv : act.eval s = v) (h : Buf w e sz v k xs)
    (yv : Value) (m : Nat) (news : List Value) (hy : act.eval y = yv) (hs : Src P sz t yv m news w) (hzs : z.cells.size = sz)
    (h63 : k + m ≤ maxLen) (hbytes : (k + m) * bytes ≤ 140737488355328)
    (hK : ∀ v' w', Buf w' e sz v' (k + m) (xs ++ news) → Keep (blk v) w w' → (∀ j ∈ blk v', j ∈ blk v ∨ j = w.heap.size) → wpListIn F n P ops Q rest (act.put o.dst v') w') :
    wpListIn F n P ops Q (o :: rest) act w := by
  refine wpListIn_plain hgd fun K hK' => ?_
  obtain ⟨v', w', hr, h2, h3, h4⟩ := run_append_buf (P := P) t o.type i z bytes ht hi hz hsize hby h yv m news hs hzs h63 hbytes
  unfold Oper.wpIn
  refine ⟨?_, ?_⟩
  · simp [Oper.about, ho, resolve, Target.leads, Sem.run_pure]
  · rw [Oper.semAt_plain F _ _ (by rw [ho]; intro c hc'; cases hc')]
    simp [execOp, ho, resolve, invoke, builtin, hsv, hy, hr, Result.andThen]
    exact hK' _ _ (hK v' w' h2 h3 h4)
end

theorem ComeI.push {b : Nat} {F : List Nat} {step : Int} {L : List Ev} {w : World} {k : Nat} {sk : DS} {W W1 w1 : World} {F' : List Nat} {lv v' : Value} (h : ComeI b F step L w k sk W F' lv) (hF : ∀ j ∈ F, j < w.heap.size) (k0 : Keep [] W W1)
    (hk1 : Keep (blk lv) W1 w1) {e : Ev} (he : L[k]? = some e) (hb : Buf w1 25 3 v' (k + 1) (evsC ((L.take k).map (lateE · step)) ++ evC (lateE e step))) (hs : ∀ j ∈ blk v', j ∈ blk lv ∨ W.heap.size ≤ j) :
    ComeI b F step L w (k + 1) sk (w1.setCell ⟨w.heap.size + 2, 0, none⟩ v') F' v' := by
  have h6 : w.heap.size + 6 ≤ W.heap.size := lt_of_heap h.c5
  have nlv : ∀ i, i < 6 → w.heap.size + i ∉ blk lv := fun i hi hm => by have := (h.lf _ hm).1; omega
  have nv : ∀ i, i < 6 → w.heap.size + i ∉ blk v' := fun i hi hm => by
    rcases hs _ hm with h1 | h1
    · exact nlv i hi h1
    · omega
  have kA : Keep (blk lv) W w1 := (k0.weaken (fun k hk => by cases hk)).trans hk1
  have kS : Keep [w.heap.size + 2] w1 (w1.setCell ⟨w.heap.size + 2, 0, none⟩ v') := (Keep.refl _ _).setCell (.inl (by simp)) _
  have kB : Keep ((w.heap.size + 2) :: blk lv) W (w1.setCell ⟨w.heap.size + 2, 0, none⟩ v') := (kA.weaken (fun k hk _ => by simp [hk])).setCell (.inl (by simp)) _
  have cc : ∀ i, i < 6 → i ≠ 2 → ∀ o, W.heap[w.heap.size + i]? = some o → (w1.setCell ⟨w.heap.size + 2, 0, none⟩ v').heap[w.heap.size + i]? = some o := fun i hi h2 o ho =>
    kB.heap ho (by simp only [List.mem_cons, not_or]; exact ⟨by omega, nlv i hi⟩)
  have nF : ∀ j ∈ F', j ∉ (w.heap.size + 2) :: blk lv := fun j hj hm => by
    rcases List.mem_cons.1 hm with rfl | h1
    · rcases h.fr _ hj with h2 | h2
      · have := hF _ h2; omega
      · omega
    · exact (h.lf j h1).2 hj
  refine ⟨h.dv.keep kB nF, h.keep.then kB (fun j hj hlt => ?_), h.fr, cc 0 (by omega) (by omega) _ h.c0, cc 1 (by omega) (by omega) _ h.c1, ?_, cc 3 (by omega) (by omega) _ h.c3, cc 4 (by omega) (by omega) _ h.c4, cc 5 (by omega) (by omega) _ h.c5, ?_, fun j hj => ?_⟩
  · rcases List.mem_cons.1 hj with rfl | h1
    · omega
    · have := (h.lf j h1).1; omega
  · have := heap_set_same (kA.heap h.c2 (nlv 2 (by omega))) 0 v'
    rw [this]; rfl
  · have e2 : L.take (k + 1) = L.take k ++ [e] := by rw [List.take_add_one, he]; rfl
    have e3 : evsC ((L.take (k + 1)).map (lateE · step)) = evsC ((L.take k).map (lateE · step)) ++ evC (lateE e step) := by rw [e2, List.map_append, evsC_append]; simp [evsC]
    rw [e3]
    exact hb.keep kS (fun j hj hm => by simp at hm; subst hm; exact nv 2 (by omega) hj)
  · rcases hs j hj with h1 | h1
    · exact h.lf j h1
    · exact ⟨by omega, fun hm => by have := h.dv.lt j hm; omega⟩

theorem info_ev : (Try.prog.info? 25).map (fun i => (i.zero, i.size, i.bytes)) = some (some (.agg #[.int .i64 0, .int .i64 0, .int .u8 0]), 3, 24) := by kernel_rfl

theorem ComeI.to {b : Nat} {F : List Nat} {step : Int} {L : List Ev} {w : World} {k : Nat} {sk sk' : DS} {W0 W z : World} {F' : List Nat} {lv : Value} {N : Nat} (h : ComeI b F step L w k sk W F' lv ∧ KeepsFrom N W0 W) (hF : ∀ j ∈ F, j < w.heap.size) (hd : DvTo b F' sk' W z) :
    (∃ F'' lv, ComeI b F step L w k sk' z F'' lv) ∧ KeepsFrom N W0 z := by
  obtain ⟨F'', hd, hk, hs⟩ := hd
  exact ⟨⟨F'', lv, h.1.move hF hk (fun j hj => .inl hj) (fun j hj => (h.1.lf j hj).2) hd hs⟩, h.2.trans (keepsFrom_of_keep hk (fun j hj => .inr (h.1.dv.cellsB j hj)))⟩

theorem DvAt.setBits {w : World} {b : Nat} {F : List Nat} {s : DS} (h : DvAt w b F s) (n : Nat) (hn : n < 8) : DvTo b F { s with bits := n } w (w.setCell ⟨b, 0, none⟩ (.int .u32 (n : Nat))) := by
  obtain ⟨ok, q, bl, sc, ou, hi, rfl⟩ := h
  exact hi.to ⟨hn, ok.mask, ok.queue, ok.disk, ok.bk, ok.ad, ok.st, ok.kd, ok.fr, ok.to, ok.script, ok.out⟩ ((Keep.refl _ _).setCell (.inl (by simp)) _) (heap_set_same hi.cs 0 _) rfl rfl rfl rfl

theorem DvTo.trans {b : Nat} {F : List Nat} {s' s'' : DS} {w x y : World} (h : DvTo b F s' w x) (h2 : ∀ F', DvAt x b F' s' → DvTo b F' s'' x y) : DvTo b F s'' w y := by
  obtain ⟨F', hd, hk, hs⟩ := h
  obtain ⟨F'', hd2, hk2, hs2⟩ := h2 F' hd
  have := hk.size
  exact ⟨F'', hd2, hk.then hk2 (fun j hj hlt => (hs j hj).elim id (fun h => by omega)), fun j hj => (hs2 j hj).elim (hs j) (fun h => .inr (by omega))⟩

theorem DvTo.keep0 {b : Nat} {F : List Nat} {s' : DS} {w x y : World} (h : DvTo b F s' w x) (hk : Keep [] x y) : DvTo b F s' w y := by
  obtain ⟨F', hd, hk2, hs⟩ := h
  exact ⟨F', hd.keep0 hk, hk2.trans (hk.weaken (fun k hk => by cases hk)), hs⟩

theorem DvTo.from0 {b : Nat} {F : List Nat} {s' : DS} {w x y : World} (h : DvTo b F s' x y) (hk : Keep [] w x) : DvTo b F s' w y := by
  obtain ⟨F', hd, hk2, hs⟩ := h
  have := hk.size
  exact ⟨F', hd, (hk.weaken (fun k hk => by cases hk)).trans hk2, fun j hj => (hs j hj).imp id (fun h => by omega)⟩

theorem DvAt.c6 {w : World} {b : Nat} {F : List Nat} {s : DS} (h : DvAt w b F s) : w.cell? ⟨b, 6, none⟩ = some (.int .u32 (s.st : Nat)) := by
  obtain ⟨ok, q, bl, sc, ou, hi, rfl⟩ := h
  exact cell_of hi.cs 6 rfl

theorem ComeI.facts {b : Nat} {F : List Nat} {step : Int} {L : List Ev} {w : World} {k : Nat} {sk sk' : DS} {y z : World} {F' : List Nat} {lv : Value} (h : ComeI b F step L w k sk y F' lv) (hF : ∀ j ∈ F, j < w.heap.size) (hd : DvTo b F' sk' y.drew z) :
    z.cell? ⟨w.heap.size, 0, none⟩ = some (.pointer (some ⟨b, 0, none⟩)) ∧ z.cell? ⟨b, 0, none⟩ = some (.int .u32 (sk'.bits : Nat)) ∧ ∀ i, z.frozen? ⟨b, i, none⟩ = false := by
  obtain ⟨F'', ⟨ok, q, bl, sc, ou, hi, rfl⟩, hk, hs⟩ := hd
  refine ⟨?_, cell_of hi.cs 0 rfl, frozen_of hi.cs⟩
  have : z.heap[w.heap.size]? = _ := hk.heap (w := y.drew) h.c0 (fun hm => by
    rcases h.fr _ hm with h2 | h2
    · have := hF _ h2; omega
    · omega)
  exact cell_of this 0 rfl

theorem ins0 (w : World) : Calls Try.prog 78 #[.slice none 0 0, .int .i64 0, .int .i64 0] w fun e w' => (∃ v, e = .returned v) ∧ w' = w := by
  go_enter Try.func78, Try.ntmps78
  go_wp2
  refine wp_loop_rounds 1 ?_
  rw [rounds_succ]
  go_wp2
  go_end0
  exact ⟨⟨_, rfl⟩, rfl⟩

theorem pdq0 (w : World) (z : Int) : Calls Try.prog 67 #[.slice none 0 0, .int .i64 0, .int .i64 0, .int .i64 z] w fun e w' => (∃ v, e = .returned v) ∧ w' = w := by
  go_enter Try.func67, Try.ntmps67
  go_wp2
  refine wp_loop_rounds 1 ?_
  rw [rounds_succ]
  go_wp2_with (go_at_call 78; refine (ins0 _).mono ?_; rintro e w' ⟨⟨v, rfl⟩, rfl⟩)
  refine bodyPost_ret (results_none rfl _ _ _) rfl ?_
  exact ⟨⟨_, rfl⟩, rfl⟩

theorem len64_0 (w : World) : Calls Try.prog 88 #[.int .u64 0] w fun e w' => ∃ z, e = .returned (.int .i64 z) ∧ w' = w := by
  go_enter Try.func88, Try.ntmps88
  go_wp2
  go_ret
  exact ⟨_, rfl, rfl⟩

theorem len_0 (w : World) : Calls Try.prog 68 #[.int .u64 0] w fun e w' => ∃ z, e = .returned (.int .i64 z) ∧ w' = w := by
  go_enter Try.func68, Try.ntmps68
  go_wp2_with (go_at_call 88; refine (len64_0 _).mono ?_; rintro e w' ⟨z, rfl, rfl⟩)
  go_ret
  exact ⟨_, rfl, rfl⟩

theorem sort0 (w : World) : Calls Try.prog 42 #[.slice none 0 0] w fun e w' => (∃ v, e = .returned v) ∧ w' = w := by
  go_enter Try.func42, Try.ntmps42
  go_wp2_with (first | (go_at_call 68; refine (len_0 _).mono ?_; rintro e w' ⟨z, rfl, rfl⟩) | (go_at_call 67; refine (pdq0 _ _).mono ?_; rintro e w' ⟨⟨v, rfl⟩, rfl⟩))
  go_end0
  exact ⟨⟨_, rfl⟩, rfl⟩

theorem compact0 (w : World) : Calls Try.prog 43 #[.slice none 0 0] w fun e w' => e = .returned (.slice none 0 0) ∧ w = w' := by
  go_enter Try.func43, Try.ntmps43
  go_wp2
  go_ret
  exact ⟨rfl, rfl⟩

/-- The loop's temporaries. -/
def comeT (b n0 : Nat) (step : Int) (t10 t18 : Value) : Array Value := #[.pointer (some ⟨b, 0, none⟩), .int .i64 step, .pointer none, .pointer (some ⟨n0, 0, none⟩), undef, .pointer (some ⟨n0 + 1, 0, none⟩), .slice none 0 0, .slice none 0 0, .pointer (some ⟨n0 + 1 + 1, 0, none⟩), .pointer (some ⟨n0 + 1 + 1 + 1, 0, none⟩), t10, undef, undef, .pointer (some ⟨b, 0, none⟩), .bool false, .pointer (some ⟨b, 0, none⟩), .int .i64 step, .func (.func 65) #[] #[.pointer (some ⟨n0 + 1 + 1 + 1 + 1, 0, none⟩), .pointer (some ⟨n0 + 1 + 1 + 1 + 1 + 1, 0, none⟩)], t18, undef, undef, undef, undef, undef, undef, undef, undef, undef, undef, undef, undef, undef, undef, undef, undef, undef, undef, undef, undef, undef, undef, undef, undef, undef, undef, undef, undef, undef, undef, undef, undef, undef, undef, undef, undef, undef, undef, undef, undef, undef, undef, undef, undef, undef, undef, undef, undef, undef, undef, undef, undef, undef, undef, undef, undef, undef]

def evAt (L : List Ev) (k : Nat) : Ev := (L[k]?).getD ⟨0, 0, 0⟩
theorem evAt_of {L : List Ev} {k : Nat} {e : Ev} (h : L[k]? = some e) : evAt L k = e := by simp [evAt, h]

theorem come1_script (t : DS) (e : Ev) (r : List Ev) : come1 { t with script := r } e = { come1 t e with script := r } := by
  unfold come1
  split
  · rfl
  · split
    · rfl
    · split <;> rfl

theorem comeK_succ {s : DS} {k : Nat} {e : Ev} (h : s.script[k]? = some e) : comeK s (k + 1) = come1 { comeK s k with script := s.script.drop (k + 1) } e := by
  have : s.script.take (k + 1) = s.script.take k ++ [e] := by
    rw [List.take_add_one, h]; rfl
  have h2 : (s.script.take (k + 1)).foldl come1 s = come1 ((s.script.take k).foldl come1 s) e := by rw [this, List.foldl_append]; rfl
  have h3 := come1_script ((s.script.take k).foldl come1 s) e (s.script.drop (k + 1))
  unfold comeK
  rw [h2]
  exact h3.symm

/-- Behind the assignment. -/
def ComeA (b : Nat) (F : List Nat) (step : Int) (s : DS) (w : World) (k : Nat) (c : Act) (W : World) : Prop :=
  ∃ F' lv E, c = { tmps := comeT b w.heap.size step (.pointer (some ⟨E, 0, none⟩)) (.agg (evC (lateE (evAt s.script k) step)).toArray), defers := [] } ∧ k < cntD step s.script ∧
    ComeI b F step s.script w k { comeK s k with script := s.script.drop (k + 1) } W F' lv ∧ W.heap[E]? = some (.cells (evC (lateE (evAt s.script k) step)).toArray 25 (0, 0)) ∧ E ∉ F' ∧ E ∉ blk lv ∧ w.heap.size + 6 ≤ E

set_option maxHeartbeats 2000000 in
theorem come_nil {w : World} {b : Nat} {F : List Nat} {s : DS} (h : DvAt w b F s) (step : Int) (hst : -9223372036854775808 ≤ step ∧ step ≤ 9223372036854775807) :
    Calls Try.prog 12 #[.pointer (some ⟨b, 0, none⟩), .int .i64 step, .pointer none] w fun e w' =>
      ∃ v, e = .returned (.tuple #[v, .slice none 0 0]) ∧ Buf w' 25 3 v (cntD step s.script) (evsC ((s.script.take (cntD step s.script)).map (lateE · step))) ∧ (∀ k ∈ blk v, w.heap.size ≤ k) ∧
        ∃ F', DvAt w' b F' (comeK s (cntD step s.script)) ∧ Keep F w w' ∧ (∀ k ∈ F', k ∈ F ∨ w.heap.size ≤ k) ∧ ∀ k ∈ blk v, k ∉ F' := by
  refine (callsIn_wide (n := 3)).1 ?_
  obtain ⟨q, bl, sc, ou, hi, hF⟩ := h.ex
  clear hF
  have C0 := Lib.hid (fun x (hk : Keep [] w x) => dnone_no (hk.cell hi.made (by simp)))
  have hm : Try.prog.follows .mixedOrders = true := by kernel_rfl
  refine callsIn_of_wp_marks Try.func12 rfl trivial ?_ rfl
  simp only [Try.ntmps12, List.size_toArray, List.length_cons, List.length_nil, Nat.reduceAdd, Nat.reduceSub, Array.replicate_succ, Array.replicate_zero, List.push_toArray, List.append_toArray, List.nil_append, List.cons_append]
  gi_wp2_with (first | (refine ⟨trivial, ?_⟩; gi_at_call 37; refine (callsIn_wide.2 (C0.out _ (((Keep.refl [] _).alloc _).alloc _))).mono ?_; rintro e w' ⟨rfl, rfl⟩) | (refine ⟨trivial, ?_⟩; gi_at_call 38; refine (callsIn_wide.2 (due_at _ _ _)).mono ?_; rintro e w' ⟨rfl, rfl⟩))
  have hFl := h.lt
  have I6 : ∃ x, x = ((((((w.alloc (.cells #[.pointer (some ⟨b, 0, none⟩)] 26)).alloc (.cells #[.pointer none] 53)).alloc (.cells #[.slice none 0 0] 23)).alloc (.cells #[.slice none 0 0] 30)).alloc (.cells #[.pointer (some ⟨b, 0, none⟩)] 26)).alloc (.cells #[.int .i64 step] 3)) := ⟨_, rfl⟩
  obtain ⟨x, hx⟩ := I6
  rw [← hx]
  have k6 : Keep [] w x := by rw [hx]; exact (((((((Keep.refl _ _).alloc _).alloc _).alloc _).alloc _).alloc _).alloc _)
  have s6 : x.heap.size = w.heap.size + 6 := by rw [hx]; simp
  have i6 : ComeI b F step s.script w 0 (comeK s 0) x F (.slice none 0 0) := by
    refine ⟨h.keep0 k6, k6.weaken (fun k hk => by cases hk), fun j hj => .inl hj, ?_, ?_, ?_, ?_, ?_, ?_, Buf.nil _ _ _, fun j hj => by simp [blk] at hj⟩
    all_goals rw [hx]
    · exact heap_alloc_other _ (heap_alloc_other _ (heap_alloc_other _ (heap_alloc_other _ (heap_alloc_other _ (heap_alloc_at _ rfl)))))
    · exact heap_alloc_other _ (heap_alloc_other _ (heap_alloc_other _ (heap_alloc_other _ (heap_alloc_at _ (by simp)))))
    · exact heap_alloc_other _ (heap_alloc_other _ (heap_alloc_other _ (heap_alloc_at _ (by simp))))
    · exact heap_alloc_other _ (heap_alloc_other _ (heap_alloc_at _ (by simp)))
    · exact heap_alloc_other _ (heap_alloc_at _ (by simp))
    · exact heap_alloc_at _ (by simp)
  clear hx
  refine wpIn_rangeFunc_open rfl (by omega) (gf := 65) (lb := #[.pointer (some ⟨w.heap.size + 1 + 1 + 1 + 1, 0, none⟩), .pointer (some ⟨w.heap.size + 1 + 1 + 1 + 1 + 1, 0, none⟩)]) rfl trivial (enters_of Try.func65 (by kernel_rfl) rfl)
    (fun k => #[.agg (evC (lateE (evAt s.script k) step)).toArray]) (fun _ => rfl)
    (fun k W y => k < cntD step s.script ∧ DueStep b (comeK s k) { comeK s k with script := s.script.drop (k + 1) } W y) (fun k => k = cntD step s.script)
    (fun k W => ∃ F' lv, ComeI b F step s.script w k (comeK s k) W F' lv)
    (fun k W => k < cntD step s.script ∧ ∃ F' lv, ComeI b F step s.script w k { comeK s k with script := s.script.drop (k + 1) } W F' lv)
    (fun k c W => ComeA b F step s w k c W) ?drew ?put ?putA ?zero ?step ?seq ?assign ?body ?done
  case drew =>
    rintro k W m ⟨F', lv, hc⟩
    exact ⟨F', lv, hc.keep0 hFl ((Keep.refl _ _).drewN m)⟩
  case put =>
    rintro k W l o o' hl ho hcl ⟨F', lv, hc⟩
    exact ⟨F', lv, hc.put hFl o' (by omega) ho hcl⟩
  case putA =>
    rintro k c W l o o' hl ho hcl ⟨F', lv, E, rfl, hk, hc, hE, hE1, hE2, hE3⟩
    refine ⟨F', lv, E, rfl, hk, hc.put hFl o' (by omega) ho hcl, (World.putObj_heap_other ?_).trans hE, hE1, hE2, hE3⟩
    rintro rfl
    rw [hE] at ho; cases ho; cases hcl
  case zero =>
    intro o o'
    exact ⟨F, .slice none 0 0, i6.keep0 hFl (((Keep.refl _ _).alloc _).alloc _)⟩
  case step =>
    rintro k W y ⟨F', lv, hc⟩ ⟨hk, hK, hD⟩
    obtain ⟨F'', hd, hs⟩ := hD F' hc.dv
    have hb := hc.dv.mem
    refine ⟨⟨hk, F'', lv, hc.move hFl hK (fun j hj => by simp at hj; subst hj; exact .inl hb) (fun j hj hm => ?_) hd (fun j hj => .inl (hs j hj))⟩, keepsFrom_of_keep hK (fun j hj => by simp at hj; subst hj; exact .inr (hc.dv.cellsB _ hb))⟩
    simp at hm; subst hm
    exact (hc.lf j hj).2 hb
  case seq =>
    intro l J hJI hJd hY W h0
    refine due1 (3 - 1) l (by omega) b _ _ step hst (comeK s) s.script (fun k => rfl) J hJd (fun k W' hj => ?_) (fun k W' y hj hst' e he => ?_) W h0
    · obtain ⟨F', lv, hc⟩ := hJI k W' hj
      exact ⟨F', hc.dv, cell_of hc.c4 0 rfl, cell_of hc.c5 0 rfl⟩
    · have := hY k W' y hj hst'
      rwa [evAt_of he] at this
  case assign =>
    rintro l k W ⟨hk, F', lv, hc⟩
    have hC := Lib.hid hc
    have hfz : ∀ cs t i, (W.alloc (.cells cs t)).frozen? ⟨W.heap.size, i, none⟩ = false := fun cs t i => frozen_of (heap_alloc_at _ rfl) i
    clear hc
    simp only [evC, lateE]
    gi_wp2
    have h6 : w.heap.size + 6 ≤ W.heap.size := lt_of_heap hC.out.c5
    exact ⟨⟨F', lv, W.heap.size, rfl, hk, hC.out.keep0 hFl ((Keep.refl _ _).alloc _), heap_alloc_at _ rfl, fun hm => Nat.lt_irrefl _ (hC.out.dv.lt _ hm), fun hm => Nat.lt_irrefl _ (hC.out.hlv.lt _ hm), h6⟩, keepsFrom_of_keep ((Keep.refl [] W).alloc _) (by simp)⟩
  case body =>
    rintro l k c W ⟨F', lv, E, rfl, hk, hc, hE, hE1, hE2, hE3⟩
    obtain ⟨e, he⟩ : ∃ e, s.script[k]? = some e := ⟨s.script[k]'(by have := cntD_le step s.script; omega), by simp⟩
    rw [evAt_of he] at hE ⊢
    obtain ⟨sk, hsk⟩ : ∃ sk, sk = { comeK s k with script := s.script.drop (k + 1) } := ⟨_, rfl⟩
    rw [← hsk] at hc
    have hS : comeK s (k + 1) = come1 sk e := by rw [comeK_succ he, hsk]
    clear hsk
    have hev := h.ok.script.1 e (List.mem_of_getElem? he)
    have hkl : k < 64 := by have := cntD_le step s.script; have := h.ok.script.2; omega
    obtain ⟨lva, lvc, rfl, _, _⟩ := hc.hlv.shape
    have c2 : W.cell? ⟨w.heap.size + 1 + 1, 0, none⟩ = some (.slice lva k lvc) := cell_of hc.c2 0 rfl
    have E0 : W.cell? ⟨E, 0, none⟩ = some (.int .i64 step) := cell_of hE 0 rfl
    have E1 : W.cell? ⟨E, 1, none⟩ = some (.int .i64 e.kd) := cell_of hE 1 rfl
    have E2 : W.cell? ⟨E, 2, none⟩ = some (.int .u8 e.by') := cell_of hE 2 rfl
    obtain ⟨i0, hif, hz0, hz1, hz2⟩ := info_parts info_ev
    have B1 := Lib.hid (hc.hlv.keep0 ((Keep.refl [] W).alloc (.cells #[.int .i64 step, .int .i64 e.kd, .int .u8 e.by'] 25)))
    have HC := Lib.hid (And.intro hc (And.intro hE (And.intro hE1 (And.intro hE2 (And.intro hE3 he)))))
    have c2' : ∀ w1 : World, Keep (blk (.slice lva k lvc)) (W.alloc (.cells #[.int .i64 step, .int .i64 e.kd, .int .u8 e.by'] 25)) w1 → w1.cell? ⟨w.heap.size + 1 + 1, 0, none⟩ = some (.slice lva k lvc) ∧ (∀ i, w1.frozen? ⟨w.heap.size + 1 + 1, i, none⟩ = false) := fun w1 hk1 => by
      have hn : w.heap.size + 2 ∉ blk (.slice lva k lvc) := fun hm => by have := (HC.out.1.lf _ hm).1; omega
      have := hk1.heap (heap_alloc_other _ HC.out.1.c2) hn
      exact ⟨cell_of this 0 rfl, frozen_of this⟩
    have C2 := Lib.hid c2'
    have hbm := hc.dv.mem
    have hbF : b ∈ F := h.mem
    have hbw := hFl b hbF
    have hbn : ¬ b = w.heap.size + 1 + 1 := by omega
    have hbn' : ¬ w.heap.size + 1 + 1 = b := by omega
    obtain ⟨q', bl', sc', ou', hi', hF'e⟩ := hc.dv.ex
    have P0 : ∀ (v' : Value) (w1 : World), Buf w1 25 3 v' (k + 1) (evsC ((s.script.take k).map (lateE · step)) ++ [.int .i64 step, .int .i64 e.kd, .int .u8 e.by']) → Keep (blk (.slice lva k lvc)) (W.alloc (.cells #[.int .i64 step, .int .i64 e.kd, .int .u8 e.by'] 25)) w1 →
        (∀ j ∈ blk v', j ∈ blk (.slice lva k lvc) ∨ j = (W.alloc (.cells #[.int .i64 step, .int .i64 e.kd, .int .u8 e.by'] 25)).heap.size) →
        ComeI b F step s.script w (k + 1) sk (w1.setCell ⟨w.heap.size + 1 + 1, 0, none⟩ v') F' v' ∧ w1.cell? ⟨E, 1, none⟩ = some (.int .i64 e.kd) ∧ w1.cell? ⟨E, 2, none⟩ = some (.int .u8 e.by') ∧ w1.cell? ⟨w.heap.size, 0, none⟩ = some (.pointer (some ⟨b, 0, none⟩)) ∧ w1.cell? ⟨w.heap.size + 1, 0, none⟩ = some (.pointer none) ∧
          w1.cell? ⟨b, 0, none⟩ = some (.int .u32 (sk.bits : Nat)) ∧ w1.cell? ⟨b, 6, none⟩ = some (.int .u32 (sk.st : Nat)) ∧ (∀ i, w1.frozen? ⟨b, i, none⟩ = false) ∧ KeepsFrom (w.heap.size + 6) W (w1.setCell ⟨w.heap.size + 1 + 1, 0, none⟩ v') := fun v' w1 hb1 hk1 hs1 => by
      have hP := HC.out.1.push hFl ((Keep.refl [] W).alloc _) hk1 HC.out.2.2.2.2.2 hb1 (fun j hj => (hs1 j hj).imp id (fun h => by simp at h; omega))
      have n1 : w.heap.size + 0 ∉ blk (.slice lva k lvc) := fun hm => by have := (HC.out.1.lf _ hm).1; omega
      have n2 : w.heap.size + 1 ∉ blk (.slice lva k lvc) := fun hm => by have := (HC.out.1.lf _ hm).1; omega
      have n3 : b ∉ blk (.slice lva k lvc) := fun hm => by have := (HC.out.1.lf _ hm).1; omega
      have g1 := hk1.heap (heap_alloc_other _ HC.out.2.1) HC.out.2.2.2.1
      have g2 := hk1.heap (heap_alloc_other _ HC.out.1.c0) n1
      have g3 := hk1.heap (heap_alloc_other _ HC.out.1.c1) n2
      have g4 := hk1.heap (heap_alloc_other _ hi'.cs) n3
      have kA : Keep ((w.heap.size + 1 + 1) :: blk (.slice lva k lvc)) W (w1.setCell ⟨w.heap.size + 1 + 1, 0, none⟩ v') := ((((Keep.refl [] W).alloc _).weaken (fun k hk => by cases hk)).trans (hk1.weaken (fun k hk _ => by simp [hk]))).setCell (.inl (by simp)) _
      refine ⟨hP, cell_of g1 1 rfl, cell_of g1 2 rfl, cell_of g2 0 rfl, cell_of g3 0 rfl, cell_of g4 0 rfl, cell_of g4 6 rfl, frozen_of g4, keepsFrom_of_keep kA (fun j hj => ?_)⟩
      rcases List.mem_cons.1 hj with rfl | h1
      · exact .inl (by omega)
      · exact .inr (Buf.cellsB HC.out.1.hlv j h1)
    have PP := Lib.hid P0
    have hbits : sk.bits < 8 := hc.dv.ok.bits
    have hOK := Lib.hid hc.dv.ok
    clear P0 hc hE hE1 hE2 c2' he hi' hF'e
    obtain ⟨⟨k0, k1, _⟩, _, _, hby⟩ := hev
    have hkd : e.kd = 0 ∨ e.kd = 1 ∨ e.kd = 2 := by omega
    rcases hkd with hkd | hkd | hkd
    · have o1 : bits .or .u32 (sk.bits : Int) 1 = ((sk.bits ||| 1 : Nat) : Int) := or_u32 sk.bits 1 (by omega) (by omega)
      have hC1 : come1 sk e = { sk with bits := sk.bits ||| 1 } := by simp [come1, hkd]
      rw [hkd] at E1 C2 B1 PP
      rw [hC1] at hS
      have HS := Lib.hid hS
      clear hS hC1
      simp only [comeT, evC, lateE, hkd]
      gi_wp2_with (gi_at_builtin; go_loud (refine wpListIn_append_buf rfl _ _ 23 rfl 25 3 i0 (.agg #[.int .i64 0, .int .i64 0, .int .u8 0]) 24 Try.underlying23 hif hz0 hz1 hz2 (.slice lva k lvc) _ _ rfl B1.out _ 1 [.int .i64 step, .int .i64 0, .int .u8 e.by'] rfl (Src.ofSlice _ Try.underlying23 ⟨W.heap.size, 0, none⟩ 1 1 [.int .i64 step, .int .i64 0, .int .u8 e.by'] rfl (World.news_of_block (cs := #[.int .i64 step, .int .i64 0, .int .u8 e.by']) (heap_alloc_at _ (by simp))) (by simp [Value.oneCell'])) rfl (by unfold maxLen; omega) (by omega) ?_); intro v' w1 hb1 hk1 hs1; obtain ⟨va, vc, rfl, _, _⟩ := hb1.shape; obtain ⟨d1, d2⟩ := C2.out w1 hk1; obtain ⟨pA, p1, p2, p3, p4, p5, p6, p7, p8⟩ := PP.out _ w1 hb1 hk1 hs1; have PA := Lib.hid (And.intro pA p8); clear hb1 hk1 hs1 pA p8)
      rw [HS.out]
      exact ComeI.to PA.out hFl (PA.out.1.dv.setBits _ (or_lt8 _ _ hbits (by omega)))
    · have hC1 : come1 sk e = pressS sk e.by' := by simp [come1, hkd]
      rw [hkd] at E1 C2 B1 PP
      rw [hC1] at hS
      have HS := Lib.hid hS
      clear hS hC1
      simp only [comeT, evC, lateE, hkd]
      gi_wp2_with (gi_at_builtin; go_loud (refine wpListIn_append_buf rfl _ _ 23 rfl 25 3 i0 (.agg #[.int .i64 0, .int .i64 0, .int .u8 0]) 24 Try.underlying23 hif hz0 hz1 hz2 (.slice lva k lvc) _ _ rfl B1.out _ 1 [.int .i64 step, .int .i64 1, .int .u8 e.by'] rfl (Src.ofSlice _ Try.underlying23 ⟨W.heap.size, 0, none⟩ 1 1 [.int .i64 step, .int .i64 1, .int .u8 e.by'] rfl (World.news_of_block (cs := #[.int .i64 step, .int .i64 1, .int .u8 e.by']) (heap_alloc_at _ (by simp))) (by simp [Value.oneCell'])) rfl (by unfold maxLen; omega) (by omega) ?_); intro v' w1 hb1 hk1 hs1; obtain ⟨va, vc, rfl, _, _⟩ := hb1.shape; obtain ⟨d1, d2⟩ := C2.out w1 hk1; obtain ⟨pA, p1, p2, p3, p4, p5, p6, p7, p8⟩ := PP.out _ w1 hb1 hk1 hs1; have PA := Lib.hid (And.intro pA p8); clear hb1 hk1 hs1 pA p8)
      gi_region_with_o (first | (refine ⟨trivial, ?_⟩; gi_at_call 39; refine (CallsIn.inRound l (callsIn_wide.2 (press_at (PA.out.1.dv.keep0 (Keep.refl [] _).drew) e.by' hby))).mono ?_; rintro e9 W9 ⟨⟨v9, rfl⟩, hd9⟩; have H9 := Lib.hid hd9; clear hd9))
      all_goals
        gi_wp2
        rw [HS.out]
        exact ComeI.to PA.out hFl (H9.out.from0 (Keep.refl [] _).drew)
    · rw [hkd] at E1 C2 B1 PP
      by_cases hs1 : sk.st = 1
      · have q1 : decide (sk.st = 1) = true := decide_eq_true hs1
        have hC1 : come1 sk e = { sk with st := 2, bits := sk.bits ||| 4 } := by simp [come1, hkd, hs1]
        have o2 : bits .or .u32 (sk.bits : Int) 4 = ((sk.bits ||| 4 : Nat) : Int) := or_u32 sk.bits 4 (by omega) (by omega)
        rw [hC1] at hS
        have HS := Lib.hid hS
        clear hS hC1 hs1
        simp only [comeT, evC, lateE, hkd]
        gi_wp2_with (first | (gi_at_builtin; go_loud (refine wpListIn_append_buf rfl _ _ 23 rfl 25 3 i0 (.agg #[.int .i64 0, .int .i64 0, .int .u8 0]) 24 Try.underlying23 hif hz0 hz1 hz2 (.slice lva k lvc) _ _ rfl B1.out _ 1 [.int .i64 step, .int .i64 2, .int .u8 e.by'] rfl (Src.ofSlice _ Try.underlying23 ⟨W.heap.size, 0, none⟩ 1 1 [.int .i64 step, .int .i64 2, .int .u8 e.by'] rfl (World.news_of_block (cs := #[.int .i64 step, .int .i64 2, .int .u8 e.by']) (heap_alloc_at _ (by simp))) (by simp [Value.oneCell'])) rfl (by unfold maxLen; omega) (by omega) ?_); intro v' w1 hb1 hk1 hs1; obtain ⟨va, vc, rfl, _, _⟩ := hb1.shape; obtain ⟨d1, d2⟩ := C2.out w1 hk1; obtain ⟨pA, p1, p2, p3, p4, p5, p6, p7, p8⟩ := PP.out _ w1 hb1 hk1 hs1; have PA := Lib.hid (And.intro pA p8); clear hb1 hk1 hs1 pA p8) | (refine ⟨trivial, ?_⟩; gi_at_call 40; refine (CallsIn.inRound l (callsIn_wide.2 (busy_at PA.out.1.dv.c6))).mono ?_; rintro e8 W8 ⟨rfl, rfl⟩))
        gi_region_with_o (first | (refine ⟨trivial, ?_⟩; gi_at_call 41; refine (CallsIn.inRound l (callsIn_wide.2 (done_no (PA.out.1.dv.keep0 (Keep.refl [] _).drew) (v := .pointer none) (n := 0) (.inl ⟨rfl, rfl⟩) (by simp [goodN])))).mono ?_; rintro e9 W9 ⟨rfl, hd9⟩; have H9 := Lib.hid hd9; obtain ⟨r1, r2, r3⟩ := PA.out.1.facts hFl hd9; clear hd9))
        all_goals
          gi_wp2
          rw [HS.out]
          exact ComeI.to PA.out hFl ((H9.out.from0 (Keep.refl [] _).drew).trans (fun F'' hd => hd.setBits _ (or_lt8 _ _ hbits (by omega))))
      · have q1 : decide (sk.st = 1) = false := decide_eq_false hs1
        have hC1 : come1 sk e = sk := by simp [come1, hkd, hs1]
        rw [hC1] at hS
        have HS := Lib.hid hS
        clear hS hC1 hs1
        simp only [comeT, evC, lateE, hkd]
        gi_wp2_with (first | (gi_at_builtin; go_loud (refine wpListIn_append_buf rfl _ _ 23 rfl 25 3 i0 (.agg #[.int .i64 0, .int .i64 0, .int .u8 0]) 24 Try.underlying23 hif hz0 hz1 hz2 (.slice lva k lvc) _ _ rfl B1.out _ 1 [.int .i64 step, .int .i64 2, .int .u8 e.by'] rfl (Src.ofSlice _ Try.underlying23 ⟨W.heap.size, 0, none⟩ 1 1 [.int .i64 step, .int .i64 2, .int .u8 e.by'] rfl (World.news_of_block (cs := #[.int .i64 step, .int .i64 2, .int .u8 e.by']) (heap_alloc_at _ (by simp))) (by simp [Value.oneCell'])) rfl (by unfold maxLen; omega) (by omega) ?_); intro v' w1 hb1 hk1 hs1; obtain ⟨va, vc, rfl, _, _⟩ := hb1.shape; obtain ⟨d1, d2⟩ := C2.out w1 hk1; obtain ⟨pA, p1, p2, p3, p4, p5, p6, p7, p8⟩ := PP.out _ w1 hb1 hk1 hs1; have PA := Lib.hid (And.intro pA p8); clear hb1 hk1 hs1 pA p8) | (refine ⟨trivial, ?_⟩; gi_at_call 40; refine (CallsIn.inRound l (callsIn_wide.2 (busy_at PA.out.1.dv.c6))).mono ?_; rintro e8 W8 ⟨rfl, rfl⟩))
        rw [HS.out]
        exact ⟨⟨_, _, PA.out.1⟩, PA.out.2⟩
  case done =>
    rintro D k W hD rfl ⟨F', lv, hc⟩ hDf
    obtain ⟨lva, lvc, rfl, _, _⟩ := hc.hlv.shape
    have c2 : W.cell? ⟨w.heap.size + 1 + 1, 0, none⟩ = some (.slice lva (cntD step s.script) lvc) := cell_of hc.c2 0 rfl
    have c3 : W.cell? ⟨w.heap.size + 1 + 1 + 1, 0, none⟩ = some (.slice none 0 0) := cell_of hc.c3 0 rfl
    have HC := Lib.hid (And.intro hc hDf)
    clear hc hDf
    gi_wp2_with (refine ⟨trivial, ?_⟩; gi_at_call 42; refine (callsIn_wide.2 (sort0 _)).mono ?_; rintro e WS ⟨⟨v, rfl⟩, rfl⟩)
    refine wpIn_wide.2 ?_
    go_quiet ((go_at_call 43; exact quiet_same (compact0 _)))
    gi_wp2
    have hdr : Keep [] WS (WS.drewN nq) := (Keep.refl _ _).drewN nq
    have hK : (WS.drewN nq).heap[D]? = some (.deferred (some [])) := HC.out.2
    refine ⟨by simp, .inl ⟨_, _, rfl, run_takeDeferred hK, ?_⟩⟩
    have hfin := (HC.out.1.keep0 hFl hdr).put hFl (.deferred none) (by omega) hK rfl
    exact ⟨_, results_tmp2 rfl _ _ _, _, rfl, hfin.hlv, fun j hj => by have := (hfin.lf j hj).1; omega, F', hfin.dv, hfin.keep, fun j hj => (hfin.fr j hj).imp id (fun h => by omega), fun j hj => (hfin.lf j hj).2⟩

end Go.Proofs.Ytgeakpeaohggoaa
