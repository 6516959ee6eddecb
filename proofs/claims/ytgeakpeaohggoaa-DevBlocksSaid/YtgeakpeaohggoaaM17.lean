/- Contracts of the functions that the law reaches, walked, and the plain laws on them (several texts in one). -/
import Derived.Maps.AppendAt
import Derived.Deep.AppendLies
import Derived.Test.YtgeakpeaohggoaaM16

/- Devices: the events come, with a memory: the walk. -/
namespace Go.Proofs.Ytgeakpeaohggoaa
open Go.RowKit Go.Mum Go.Shelf
set_option linter.unusedVariables false
set_option linter.unusedSimpArgs false
set_option maxRecDepth 100000

attribute [local go_sem] Oper.semAt_some

def comeTM (b r n0 : Nat) (step : Int) (t10 t18 : Value) : Array Value := #[.pointer (some ⟨b, 0, none⟩), .int .i64 step, .pointer (some ⟨r, 0, none⟩), .pointer (some ⟨n0, 0, none⟩), undef, .pointer (some ⟨n0 + 1, 0, none⟩), .slice none 0 0, .slice none 0 0, .pointer (some ⟨n0 + 1 + 1, 0, none⟩), .pointer (some ⟨n0 + 1 + 1 + 1, 0, none⟩), t10, undef, undef, .pointer (some ⟨b, 0, none⟩), .bool false, .pointer (some ⟨b, 0, none⟩), .int .i64 step, .func (.func 65) #[] #[.pointer (some ⟨n0 + 1 + 1 + 1 + 1, 0, none⟩), .pointer (some ⟨n0 + 1 + 1 + 1 + 1 + 1, 0, none⟩)], t18, undef, undef, undef, undef, undef, undef, undef, undef, undef, undef, undef, undef, undef, undef, undef, undef, undef, undef, undef, undef, undef, undef, undef, undef, undef, undef, undef, undef, undef, undef, undef, undef, undef, undef, undef, undef, undef, undef, undef, undef, undef, undef, undef, undef, undef, undef, undef, undef, undef, undef, undef, undef, undef, undef, undef, undef, undef]

/-- Behind the assignment. -/
def ComeAM (b : Nat) (F : List Nat) (step : Int) (r fb g n : Nat) (s : DS) (L : List Int) (w : World) (k : Nat) (c : Act) (W : World) : Prop :=
  ∃ F' lv fv E, c = { tmps := comeTM b r w.heap.size step (.pointer (some ⟨E, 0, none⟩)) (.agg (evC (lateE (evAt s.script k) step)).toArray), defers := [] } ∧ k < cntD step s.script ∧
    ComeJ b F step r fb g n s.script w k (setScr (comeM n s L k) (s.script.drop (k + 1))) W F' lv fv ∧ W.heap[E]? = some (.cells (evC (lateE (evAt s.script k) step)).toArray 25 (0, 0)) ∧ E ∉ F' ∧ E ∉ blk lv ∧ E ∉ blk fv ∧ w.heap.size + 6 ≤ E

theorem ComeJ.to {b : Nat} {F : List Nat} {step : Int} {r fb g n : Nat} {Ls : List Ev} {w : World} {k : Nat} {t : CT} {sk' : DS} {W0 W z : World} {F' : List Nat} {lv fv : Value} {N : Nat} (h : ComeJ b F step r fb g n Ls w k t W F' lv fv ∧ KeepsFrom N W0 W) (hF : ∀ j ∈ F, j < w.heap.size) (hg : g < w.heap.size) (hd : DvTo b F' sk' W z) (hst : sk'.st = 1 → t.s.st = 1) :
    (∃ F'' lv fv, ComeJ b F step r fb g n Ls w k { t with s := sk' } z F'' lv fv) ∧ KeepsFrom N W0 z := by
  obtain ⟨F'', hdm, hk, hs⟩ := h.1.dv.to hd
  exact ⟨⟨F'', lv, fv, h.1.move hF hg hk (fun j hj => .inl hj) (fun j hj => (h.1.lf j hj).2) (fun j hj => (h.1.ff j hj).2.1) hdm hs rfl hst⟩, h.2.trans (keepsFrom_of_keep hk (fun j hj => .inr (h.1.dv.dv.cellsB j hj)))⟩

theorem ComeJ.toM {b : Nat} {F : List Nat} {step : Int} {r fb g n : Nat} {Ls : List Ev} {w : World} {k : Nat} {t : CT} {s' : DS} {L' : List Int} {W0 W z : World} {F' : List Nat} {lv fv : Value} {N : Nat} {l : List Nat} (h : ComeJ b F step r fb g n Ls w k t W F' lv fv ∧ KeepsFrom N W0 W) (hF : ∀ j ∈ F, j < w.heap.size) (hg : g < w.heap.size) (hd : DM z b F' s' r fb g n L') (hk : Keep l W z) (hl : ∀ j ∈ l, j ∈ F' ∨ j = g) (hst : s'.st ≠ 1) :
    ComeJ b F step r fb g n Ls w k ⟨s', L', t.fs⟩ z F' lv fv ∧ KeepsFrom N W0 z := by
  refine ⟨h.1.move hF hg hk (fun j hj => (hl j hj).imp id .inl) (fun j hj hm => ?_) (fun j hj hm => ?_) hd (fun j hj => .inl hj) rfl (fun h => absurd h hst), h.2.trans (keepsFrom_of_keep hk (fun j hj => .inr ?_))⟩
  · rcases hl j hm with h1 | h1
    · exact (h.1.lf j hj).2 h1
    · have := (h.1.lf j hj).1; omega
  · rcases hl j hm with h1 | h1
    · exact (h.1.ff j hj).2.1 h1
    · have := (h.1.ff j hj).1; omega
  · rcases hl j hj with h1 | h1
    · exact h.1.dv.dv.cellsB j h1
    · rw [h1]; exact isCells_of h.1.dv.mem.data

/-- What the walk reads. -/
theorem ComeJ.reads {b : Nat} {F : List Nat} {step : Int} {r fb g n : Nat} {Ls : List Ev} {w : World} {k : Nat} {t : CT} {z : World} {F' : List Nat} {lv fv : Value} (h : ComeJ b F step r fb g n Ls w k t z F' lv fv) :
    z.cell? ⟨w.heap.size, 0, none⟩ = some (.pointer (some ⟨b, 0, none⟩)) ∧ z.cell? ⟨b, 0, none⟩ = some (.int .u32 (t.s.bits : Nat)) ∧ (∀ i, z.frozen? ⟨b, i, none⟩ = false) ∧ z.cell? ⟨w.heap.size + 1 + 1 + 1, 0, none⟩ = some fv ∧ ∀ i, z.frozen? ⟨w.heap.size + 1 + 1 + 1, i, none⟩ = false := by
  obtain ⟨ok, q, bl, sc, ou, hi, _⟩ := h.dv.dv
  exact ⟨cell_of h.c0 0 rfl, cell_of hi.cs 0 rfl, frozen_of hi.cs, cell_of h.c3 0 rfl, frozen_of h.c3⟩

/-- The facts at the append of a frame. -/
theorem ComeJ.frame2 {b : Nat} {F : List Nat} {step : Int} {r fb g n : Nat} {Ls : List Ev} {w : World} {k : Nat} {t : CT} {W W0 w1 : World} {F' : List Nat} {lv fv v' : Value} {z : Int} {o : Obj} {N : Nat} (h : ComeJ b F step r fb g n Ls w k t W F' lv fv ∧ KeepsFrom N W0 W) (hN : N = w.heap.size + 6) (hF : ∀ j ∈ F, j < w.heap.size) (hb : b < w.heap.size) (hg : g < w.heap.size) (hr : r < w.heap.size ∧ fb < w.heap.size)
    (hnil : t.fs = []) (hst : t.s.st ≠ 1) (hbf : Buf w1 3 1 v' (t.fs.length + 1) (i64s t.fs ++ [.int .i64 z])) (hk1 : Keep (blk fv) (W.alloc o) w1) (hs : ∀ j ∈ blk v', j ∈ blk fv ∨ j = (W.alloc o).heap.size) :
    (ComeJ b F step r fb g n Ls w k { t with fs := t.fs ++ [z] } (w1.setCell ⟨w.heap.size + 1 + 1 + 1, 0, none⟩ v') F' lv v' ∧ KeepsFrom N W0 (w1.setCell ⟨w.heap.size + 1 + 1 + 1, 0, none⟩ v')) ∧
      w1.cell? ⟨w.heap.size, 0, none⟩ = some (.pointer (some ⟨b, 0, none⟩)) ∧ w1.cell? ⟨b, 0, none⟩ = some (.int .u32 (t.s.bits : Nat)) ∧ (∀ i, w1.frozen? ⟨b, i, none⟩ = false) ∧ w1.cell? ⟨w.heap.size + 1 + 1 + 1, 0, none⟩ = some fv ∧ ∀ i, w1.frozen? ⟨w.heap.size + 1 + 1 + 1, i, none⟩ = false := by
  have k0 : Keep [] W (W.alloc o) := (Keep.refl _ _).alloc _
  have hJ := h.1.frame hF hg hr k0 hk1 hnil hst hbf (fun j hj => (hs j hj).imp id (fun h => by simp at h; omega))
  have kA : Keep (blk fv) W w1 := (k0.weaken (fun k hk => by cases hk)).trans hk1
  have nlow : ∀ j, j < w.heap.size + 6 → j ∉ blk fv := fun j hj hm => by have := (h.1.ff j hm).1; omega
  obtain ⟨ok, q, bl, sc, ou, hi, _⟩ := h.1.dv.dv
  have g0 := kA.heap h.1.c0 (nlow _ (by omega))
  have g3 : w1.heap[w.heap.size + 1 + 1 + 1]? = _ := kA.heap h.1.c3 (nlow _ (by omega))
  have gb := kA.heap hi.cs (nlow _ (by omega))
  have kB : Keep ((w.heap.size + 1 + 1 + 1) :: blk fv) W (w1.setCell ⟨w.heap.size + 1 + 1 + 1, 0, none⟩ v') := (kA.weaken (fun k hk _ => by simp [hk])).setCell (.inl (by simp)) _
  refine ⟨⟨hJ, h.2.trans (keepsFrom_of_keep kB (fun j hj => ?_))⟩, cell_of g0 0 rfl, cell_of gb 0 rfl, frozen_of gb, cell_of g3 0 rfl, frozen_of g3⟩
  rcases List.mem_cons.1 hj with rfl | h1
  · exact .inl (by omega)
  · exact .inr (Buf.cellsB h.1.hfv j h1)

theorem pressS_st (s : DS) (z : Int) : (pressS s z).st = s.st := rfl

theorem i64s_one (l : List Int) : ∀ u ∈ i64s l, u.oneCell' = true := fun u hu => by obtain ⟨z, _, rfl⟩ := List.mem_map.1 hu; rfl

theorem info_int : (Try.prog.info? 3).map (fun i => (i.zero, i.size, i.bytes)) = some (some (.int .i64 0), 1, 8) := by kernel_rfl

theorem insM (w : World) (a : Option Addr) (n c : Nat) (hn : n ≤ 1) : Calls Try.prog 78 #[.slice a n c, .int .i64 0, .int .i64 (n : Nat)] w fun e w' => (∃ v, e = .returned v) ∧ w' = w := by
  have h1 : decide ((1 : Int) < (n : Int)) = false := decide_eq_false (by omega)
  have h2 : ¬ 1 < n := by omega
  go_enter Try.func78, Try.ntmps78
  go_wp2
  refine wp_loop_rounds 1 ?_
  rw [rounds_succ]
  go_wp2
  go_end0
  exact ⟨⟨_, rfl⟩, rfl⟩

theorem pdqM (w : World) (a : Option Addr) (n c : Nat) (hn : n ≤ 1) (z : Int) : Calls Try.prog 67 #[.slice a n c, .int .i64 0, .int .i64 (n : Nat), .int .i64 z] w fun e w' => (∃ v, e = .returned v) ∧ w' = w := by
  have C := Lib.hid (insM w a n c hn)
  have h1 : decide ((n : Int) ≤ 12) = true := decide_eq_true (by omega)
  have h2 : n ≤ 12 := by omega
  have hw : IntKind.i64.wrap ((n : Int)) = (n : Int) := by rw [IntKind.wrap_i64]; omega
  go_enter Try.func67, Try.ntmps67
  go_wp2
  refine wp_loop_rounds 1 ?_
  rw [rounds_succ]
  go_wp2_with (go_at_call 78; refine C.out.mono ?_; rintro e w' ⟨⟨v, rfl⟩, rfl⟩)
  refine bodyPost_ret (results_none rfl _ _ _) rfl ?_
  exact ⟨⟨_, rfl⟩, rfl⟩

theorem len64_1 (w : World) : Calls Try.prog 88 #[.int .u64 1] w fun e w' => ∃ z, e = .returned (.int .i64 z) ∧ w' = w := by
  go_enter Try.func88, Try.ntmps88
  go_wp2
  go_ret
  exact ⟨_, rfl, rfl⟩

theorem len_1 (w : World) : Calls Try.prog 68 #[.int .u64 1] w fun e w' => ∃ z, e = .returned (.int .i64 z) ∧ w' = w := by
  go_enter Try.func68, Try.ntmps68
  go_wp2_with (go_at_call 88; refine (len64_1 _).mono ?_; rintro e w' ⟨z, rfl, rfl⟩)
  go_ret
  exact ⟨_, rfl, rfl⟩

theorem sortM (w : World) (a : Option Addr) (n c : Nat) (hn : n ≤ 1) : Calls Try.prog 42 #[.slice a n c] w fun e w' => (∃ v, e = .returned v) ∧ w' = w := by
  have hn' : n = 0 ∨ n = 1 := by omega
  rcases hn' with rfl | rfl
  · have C := Lib.hid (fun z => pdqM w a 0 c hn z)
    go_enter Try.func42, Try.ntmps42
    go_wp2_with (first | (go_at_call 68; refine (len_0 _).mono ?_; rintro e w' ⟨z, rfl, rfl⟩) | (go_at_call 67; refine (C.out _).mono ?_; rintro e w' ⟨⟨v, rfl⟩, rfl⟩))
    go_end0
    exact ⟨⟨_, rfl⟩, rfl⟩
  · have C := Lib.hid (fun z => pdqM w a 1 c hn z)
    go_enter Try.func42, Try.ntmps42
    go_wp2_with (first | (go_at_call 68; refine (len_1 _).mono ?_; rintro e w' ⟨z, rfl, rfl⟩) | (go_at_call 67; refine (C.out _).mono ?_; rintro e w' ⟨⟨v, rfl⟩, rfl⟩))
    go_end0
    exact ⟨⟨_, rfl⟩, rfl⟩

theorem compactM (w : World) (a : Option Addr) (n c : Nat) (hn : n ≤ 1) : Calls Try.prog 43 #[.slice a n c] w fun e w' => e = .returned (.slice a n c) ∧ w = w' := by
  have h1 : decide ((n : Int) < 2) = true := decide_eq_true (by omega)
  have h2 : n < 2 := by omega
  go_enter Try.func43, Try.ntmps43
  go_wp2
  go_ret
  exact ⟨rfl, rfl⟩

theorem ComeJ.facts {b : Nat} {F : List Nat} {step : Int} {r fb g n : Nat} {Ls : List Ev} {w : World} {k : Nat} {t : CT} {sk' : DS} {y z : World} {F' : List Nat} {lv fv : Value} (h : ComeJ b F step r fb g n Ls w k t y F' lv fv) (hF : ∀ j ∈ F, j < w.heap.size) (hg : g < w.heap.size) (hd : DvTo b F' sk' y.drew z) :
    z.cell? ⟨w.heap.size, 0, none⟩ = some (.pointer (some ⟨b, 0, none⟩)) ∧ z.cell? ⟨b, 0, none⟩ = some (.int .u32 (sk'.bits : Nat)) ∧ ∀ i, z.frozen? ⟨b, i, none⟩ = false := by
  obtain ⟨F'', ⟨ok, q, bl, sc, ou, hi, rfl⟩, hk, hs⟩ := hd
  refine ⟨?_, cell_of hi.cs 0 rfl, frozen_of hi.cs⟩
  have : z.heap[w.heap.size]? = _ := hk.heap (w := y.drew) h.c0 (fun hm => by
    rcases h.fr _ hm with h2 | h2
    · have := hF _ h2; omega
    · omega)
  exact cell_of this 0 rfl

set_option maxHeartbeats 2000000 in
theorem come_mem {w : World} {b : Nat} {F : List Nat} {s : DS} {r fb g n : Nat} {L : List Int} (h : DM w b F s r fb g n L) (step : Int) (hst : -9223372036854775808 ≤ step ∧ step ≤ 9223372036854775807) :
    Calls Try.prog 12 #[.pointer (some ⟨b, 0, none⟩), .int .i64 step, .pointer (some ⟨r, 0, none⟩)] w fun e w' =>
      ∃ v fv, e = .returned (.tuple #[v, fv]) ∧ Buf w' 25 3 v (cntD step s.script) (evsC ((s.script.take (cntD step s.script)).map (lateE · step))) ∧ (∀ k ∈ blk v, w.heap.size ≤ k) ∧
        Buf w' 3 1 fv (comeM n s L (cntD step s.script)).fs.length (i64s (comeM n s L (cntD step s.script)).fs) ∧ (comeM n s L (cntD step s.script)).fs.length ≤ 1 ∧
        ∃ F', DM w' b F' (comeM n s L (cntD step s.script)).s r fb g n (comeM n s L (cntD step s.script)).L ∧ Keep (g :: F) w w' ∧ (∀ k ∈ F', k ∈ F ∨ w.heap.size ≤ k) ∧ ∀ k ∈ blk v, k ∉ F' := by
  refine (callsIn_wide (n := 3)).1 ?_
  obtain ⟨q, bl, sc, ou, hi, hF⟩ := h.dv.ex
  clear hF
  have hgl := h.mem.lt.2.2
  have hrl : r < w.heap.size ∧ fb < w.heap.size := ⟨h.mem.lt.1, h.mem.lt.2.1⟩
  have C0 := Lib.hid (fun x (hk : Keep [] w x) => dnone_no (hk.cell hi.made (by simp)))
  have hm : Try.prog.follows .mixedOrders = true := by kernel_rfl
  refine callsIn_of_wp_marks Try.func12 rfl trivial ?_ rfl
  simp only [Try.ntmps12, List.size_toArray, List.length_cons, List.length_nil, Nat.reduceAdd, Nat.reduceSub, Array.replicate_succ, Array.replicate_zero, List.push_toArray, List.append_toArray, List.nil_append, List.cons_append]
  gi_wp2_with (first | (refine ⟨trivial, ?_⟩; gi_at_call 37; refine (callsIn_wide.2 (C0.out _ (((Keep.refl [] _).alloc _).alloc _))).mono ?_; rintro e w' ⟨rfl, rfl⟩) | (refine ⟨trivial, ?_⟩; gi_at_call 38; refine (callsIn_wide.2 (due_at _ _ _)).mono ?_; rintro e w' ⟨rfl, rfl⟩))
  have hFl := h.dv.lt
  have I6 : ∃ x, x = ((((((w.alloc (.cells #[.pointer (some ⟨b, 0, none⟩)] 26)).alloc (.cells #[.pointer (some ⟨r, 0, none⟩)] 53)).alloc (.cells #[.slice none 0 0] 23)).alloc (.cells #[.slice none 0 0] 30)).alloc (.cells #[.pointer (some ⟨b, 0, none⟩)] 26)).alloc (.cells #[.int .i64 step] 3)) := ⟨_, rfl⟩
  obtain ⟨x, hx⟩ := I6
  rw [← hx]
  have k6 : Keep [] w x := by rw [hx]; exact (((((((Keep.refl _ _).alloc _).alloc _).alloc _).alloc _).alloc _).alloc _)
  have s6 : x.heap.size = w.heap.size + 6 := by rw [hx]; simp
  have i6 : ComeJ b F step r fb g n s.script w 0 (comeM n s L 0) x F (.slice none 0 0) (.slice none 0 0) := by
    refine ⟨h.keep0 k6, k6.weaken (fun k hk => by cases hk), fun j hj => .inl hj, ?_, ?_, ?_, ?_, ?_, ?_, Buf.nil _ _ _, fun j hj => by simp [blk] at hj, Buf.nil _ _ _, fun j hj => by simp [blk] at hj, Nat.zero_le _, fun _ => rfl⟩
    all_goals rw [hx]
    · exact heap_alloc_other _ (heap_alloc_other _ (heap_alloc_other _ (heap_alloc_other _ (heap_alloc_other _ (heap_alloc_at _ rfl)))))
    · exact heap_alloc_other _ (heap_alloc_other _ (heap_alloc_other _ (heap_alloc_other _ (heap_alloc_at _ (by simp)))))
    · exact heap_alloc_other _ (heap_alloc_other _ (heap_alloc_other _ (heap_alloc_at _ (by simp))))
    · exact heap_alloc_other _ (heap_alloc_other _ (heap_alloc_at _ (by simp)))
    · exact heap_alloc_other _ (heap_alloc_at _ (by simp))
    · exact heap_alloc_at _ (by simp)
  clear hx
  refine wpIn_rangeFunc_open rfl (by omega) (gf := 65) (lb := #[.pointer (some ⟨w.heap.size + 1 + 1 + 1 + 1, 0, none⟩), .pointer (some ⟨w.heap.size + 1 + 1 + 1 + 1 + 1, 0, none⟩)]) rfl trivial (enters_of Try.func65 (by kernel_rfl) rfl)
    (fun k => #[.agg (evC (lateE (evAt s.script k) step)).toArray]) (fun _ => rfl)
    (fun k W y => k < cntD step s.script ∧ DueStep b (comeM n s L k).s { (comeM n s L k).s with script := s.script.drop (k + 1) } W y) (fun k => k = cntD step s.script)
    (fun k W => ∃ F' lv fv, ComeJ b F step r fb g n s.script w k (comeM n s L k) W F' lv fv)
    (fun k W => k < cntD step s.script ∧ ∃ F' lv fv, ComeJ b F step r fb g n s.script w k (setScr (comeM n s L k) (s.script.drop (k + 1))) W F' lv fv)
    (fun k c W => ComeAM b F step r fb g n s L w k c W) ?drew ?put ?putA ?zero ?step ?seq ?assign ?body ?done
  case drew =>
    rintro k W m ⟨F', lv, fv, hc⟩
    exact ⟨F', lv, fv, hc.keep0 hFl hgl ((Keep.refl _ _).drewN m)⟩
  case put =>
    rintro k W l o o' hl ho hcl ⟨F', lv, fv, hc⟩
    exact ⟨F', lv, fv, hc.put hFl hgl o' (by omega) ho hcl hrl⟩
  case putA =>
    rintro k c W l o o' hl ho hcl ⟨F', lv, fv, E, rfl, hk, hc, hE, hE1, hE2, hE4, hE3⟩
    refine ⟨F', lv, fv, E, rfl, hk, hc.put hFl hgl o' (by omega) ho hcl hrl, (World.putObj_heap_other ?_).trans hE, hE1, hE2, hE4, hE3⟩
    rintro rfl
    rw [hE] at ho; cases ho; cases hcl
  case zero =>
    intro o o'
    exact ⟨F, .slice none 0 0, .slice none 0 0, i6.keep0 hFl hgl (((Keep.refl _ _).alloc _).alloc _)⟩
  case step =>
    rintro k W y ⟨F', lv, fv, hc⟩ ⟨hk, hK, hD⟩
    obtain ⟨F'', hd, hs⟩ := hD F' hc.dv.dv
    have hb := hc.dv.dv.mem
    have hnb : ∀ j, j ∉ F' → j ∉ [b] := fun j hj hm => by simp at hm; subst hm; exact hj hb
    refine ⟨⟨hk, F'', lv, fv, hc.move hFl hgl hK (fun j hj => by simp at hj; subst hj; exact .inl hb) (fun j hj hm => ?_) (fun j hj hm => ?_) ⟨hd, hc.dv.mem.keep hK (hnb _ hc.dv.ap.1) (hnb _ hc.dv.ap.2.1) (hnb _ hc.dv.ap.2.2), hc.dv.len, fun hm => hc.dv.ap.1 (hs _ hm), fun hm => hc.dv.ap.2.1 (hs _ hm), fun hm => hc.dv.ap.2.2 (hs _ hm)⟩ (fun j hj => .inl (hs j hj)) rfl (fun h => h)⟩, keepsFrom_of_keep hK (fun j hj => by simp at hj; subst hj; exact .inr (hc.dv.dv.cellsB _ hb))⟩
    · simp at hm; subst hm
      exact (hc.lf j hj).2 hb
    · simp at hm; subst hm
      exact (hc.ff j hj).2.1 hb
  case seq =>
    intro l J hJI hJd hY W h0
    refine due1 (3 - 1) l (by omega) b _ _ step hst (fun k => (comeM n s L k).s) s.script (fun k => rfl) J hJd (fun k W' hj => ?_) (fun k W' y hj hst' e he => ?_) W h0
    · obtain ⟨F', lv, fv, hc⟩ := hJI k W' hj
      exact ⟨F', hc.dv.dv, cell_of hc.c4 0 rfl, cell_of hc.c5 0 rfl⟩
    · have := hY k W' y hj hst'
      rwa [evAt_of he] at this
  case assign =>
    rintro l k W ⟨hk, F', lv, fv, hc⟩
    have hC := Lib.hid hc
    have hfz : ∀ cs t i, (W.alloc (.cells cs t)).frozen? ⟨W.heap.size, i, none⟩ = false := fun cs t i => frozen_of (heap_alloc_at _ rfl) i
    clear hc
    simp only [evC, lateE]
    gi_wp2
    have h6 : w.heap.size + 6 ≤ W.heap.size := lt_of_heap hC.out.c5
    exact ⟨⟨F', lv, fv, W.heap.size, rfl, hk, hC.out.keep0 hFl hgl ((Keep.refl _ _).alloc _), heap_alloc_at _ rfl, fun hm => Nat.lt_irrefl _ (hC.out.dv.dv.lt _ hm), fun hm => Nat.lt_irrefl _ (hC.out.hlv.lt _ hm), fun hm => Nat.lt_irrefl _ (hC.out.hfv.lt _ hm), h6⟩, keepsFrom_of_keep ((Keep.refl [] W).alloc _) (by simp)⟩
  case body =>
    rintro l k c W ⟨F', lv, fv, E, rfl, hk, hc, hE, hE1, hE2, hE4, hE3⟩
    obtain ⟨e, he⟩ : ∃ e, s.script[k]? = some e := ⟨s.script[k]'(by have := cntD_le step s.script; omega), by simp⟩
    rw [evAt_of he] at hE ⊢
    obtain ⟨sk, hsk⟩ : ∃ sk, sk = setScr (comeM n s L k) (s.script.drop (k + 1)) := ⟨_, rfl⟩
    rw [← hsk] at hc
    have hS : comeM n s L (k + 1) = come1M n sk e := by rw [comeM_succ he, hsk]
    clear hsk
    have hev := h.dv.ok.script.1 e (List.mem_of_getElem? he)
    have hkl : k < 64 := by have := cntD_le step s.script; have := h.dv.ok.script.2; omega
    obtain ⟨lva, lvc, rfl, _, _⟩ := hc.hlv.shape
    have c2 : W.cell? ⟨w.heap.size + 1 + 1, 0, none⟩ = some (.slice lva k lvc) := cell_of hc.c2 0 rfl
    have E0 : W.cell? ⟨E, 0, none⟩ = some (.int .i64 step) := cell_of hE 0 rfl
    have E1 : W.cell? ⟨E, 1, none⟩ = some (.int .i64 e.kd) := cell_of hE 1 rfl
    have E2 : W.cell? ⟨E, 2, none⟩ = some (.int .u8 e.by') := cell_of hE 2 rfl
    obtain ⟨i0, hif, hz0, hz1, hz2⟩ := info_parts info_ev
    obtain ⟨j0, jif, jz0, jz1, jz2⟩ := info_parts info_int
    have hBZ := Lib.hid hc.busy
    have B1 := Lib.hid (hc.hlv.keep0 ((Keep.refl [] W).alloc (.cells #[.int .i64 step, .int .i64 e.kd, .int .u8 e.by'] 25)))
    obtain ⟨fva, fvc, hfve, _, _⟩ := hc.hfv.shape
    subst hfve
    have HC := Lib.hid (And.intro hc (And.intro hE (And.intro hE1 (And.intro hE2 (And.intro hE3 he)))))
    have c2' : ∀ w1 : World, Keep (blk (.slice lva k lvc)) (W.alloc (.cells #[.int .i64 step, .int .i64 e.kd, .int .u8 e.by'] 25)) w1 → w1.cell? ⟨w.heap.size + 1 + 1, 0, none⟩ = some (.slice lva k lvc) ∧ (∀ i, w1.frozen? ⟨w.heap.size + 1 + 1, i, none⟩ = false) := fun w1 hk1 => by
      have hn : w.heap.size + 2 ∉ blk (.slice lva k lvc) := fun hm => by have := (HC.out.1.lf _ hm).1; omega
      have := hk1.heap (heap_alloc_other _ HC.out.1.c2) hn
      exact ⟨cell_of this 0 rfl, frozen_of this⟩
    have C2 := Lib.hid c2'
    have hbm := hc.dv.dv.mem
    have hbF : b ∈ F := h.dv.mem
    have hbw := hFl b hbF
    have hbn : ¬ b = w.heap.size + 1 + 1 := by omega
    have hbn' : ¬ w.heap.size + 1 + 1 = b := by omega
    obtain ⟨q', bl', sc', ou', hi', hF'e⟩ := hc.dv.dv.ex
    have P0 : ∀ (v' : Value) (w1 : World), Buf w1 25 3 v' (k + 1) (evsC ((s.script.take k).map (lateE · step)) ++ [.int .i64 step, .int .i64 e.kd, .int .u8 e.by']) → Keep (blk (.slice lva k lvc)) (W.alloc (.cells #[.int .i64 step, .int .i64 e.kd, .int .u8 e.by'] 25)) w1 →
        (∀ j ∈ blk v', j ∈ blk (.slice lva k lvc) ∨ j = (W.alloc (.cells #[.int .i64 step, .int .i64 e.kd, .int .u8 e.by'] 25)).heap.size) →
        ComeJ b F step r fb g n s.script w (k + 1) sk (w1.setCell ⟨w.heap.size + 1 + 1, 0, none⟩ v') F' v' (.slice fva sk.fs.length fvc) ∧ w1.cell? ⟨E, 1, none⟩ = some (.int .i64 e.kd) ∧ w1.cell? ⟨E, 2, none⟩ = some (.int .u8 e.by') ∧ w1.cell? ⟨w.heap.size, 0, none⟩ = some (.pointer (some ⟨b, 0, none⟩)) ∧ w1.cell? ⟨w.heap.size + 1, 0, none⟩ = some (.pointer (some ⟨r, 0, none⟩)) ∧
          w1.cell? ⟨b, 0, none⟩ = some (.int .u32 (sk.s.bits : Nat)) ∧ w1.cell? ⟨b, 6, none⟩ = some (.int .u32 (sk.s.st : Nat)) ∧ (∀ i, w1.frozen? ⟨b, i, none⟩ = false) ∧ KeepsFrom (w.heap.size + 6) W (w1.setCell ⟨w.heap.size + 1 + 1, 0, none⟩ v') := fun v' w1 hb1 hk1 hs1 => by
      have hP := HC.out.1.push hFl hgl hrl ((Keep.refl [] W).alloc _) hk1 HC.out.2.2.2.2.2 hb1 (fun j hj => (hs1 j hj).imp id (fun h => by simp at h; omega))
      have n1 : w.heap.size + 0 ∉ blk (.slice lva k lvc) := fun hm => by have := (HC.out.1.lf _ hm).1; omega
      have n2 : w.heap.size + 1 ∉ blk (.slice lva k lvc) := fun hm => by have := (HC.out.1.lf _ hm).1; omega
      have n3 : b ∉ blk (.slice lva k lvc) := fun hm => by have := (HC.out.1.lf _ hm).1; omega
      have g1 := hk1.heap (heap_alloc_other _ HC.out.2.1) HC.out.2.2.2.1
      have g2 := hk1.heap (heap_alloc_other _ HC.out.1.c0) n1
      have g3 := hk1.heap (heap_alloc_other _ HC.out.1.c1) n2
      have g4 := hk1.heap (heap_alloc_other _ hi'.cs) n3
      have kA : Keep ((w.heap.size + 1 + 1) :: blk (.slice lva k lvc)) W (w1.setCell ⟨w.heap.size + 1 + 1, 0, none⟩ v') := ((((Keep.refl [] W).alloc _).weaken (fun k hk => by cases hk)).trans (hk1.weaken (fun k hk _ => by simp [hk]))).setCell (.inl (by simp)) _
      refine ⟨hP, cell_of g1 1 rfl, cell_of g1 2 rfl, cell_of g2 0 rfl, cell_of g3 0 rfl, cell_of g4 0 rfl, cell_of g4 6 rfl, frozen_of g4, keepsFrom_of_keep kA (fun j hj => ?_)⟩
      rcases List.mem_cons.1 hj with rfl | h1
      · exact .inl (by omega)
      · exact .inr (Buf.cellsB HC.out.1.hlv j h1)
    have PP := Lib.hid P0
    have hbits : sk.s.bits < 8 := hc.dv.dv.ok.bits
    have hOK := Lib.hid hc.dv.dv.ok
    clear P0 hc hE hE1 hE2 c2' he hi' hF'e
    obtain ⟨⟨k0, k1, _⟩, _, _, hby⟩ := hev
    have hkd : e.kd = 0 ∨ e.kd = 1 ∨ e.kd = 2 := by omega
    rcases hkd with hkd | hkd | hkd
    · have o1 : bits .or .u32 (sk.s.bits : Int) 1 = ((sk.s.bits ||| 1 : Nat) : Int) := or_u32 sk.s.bits 1 (by omega) (by omega)
      have hC1 : come1M n sk e = { sk with s := { sk.s with bits := sk.s.bits ||| 1 } } := by simp [come1M, hkd]
      rw [hkd] at E1 C2 B1 PP
      rw [hC1] at hS
      have HS := Lib.hid hS
      clear hS hC1
      simp only [comeTM, evC, lateE, hkd]
      gi_wp2_with (gi_at_builtin; go_loud (refine wpListIn_append_buf rfl _ _ 23 rfl 25 3 i0 (.agg #[.int .i64 0, .int .i64 0, .int .u8 0]) 24 Try.underlying23 hif hz0 hz1 hz2 (.slice lva k lvc) _ _ rfl B1.out _ 1 [.int .i64 step, .int .i64 0, .int .u8 e.by'] rfl (Src.ofSlice _ Try.underlying23 ⟨W.heap.size, 0, none⟩ 1 1 [.int .i64 step, .int .i64 0, .int .u8 e.by'] rfl (World.news_of_block (cs := #[.int .i64 step, .int .i64 0, .int .u8 e.by']) (heap_alloc_at _ (by simp))) (by simp [Value.oneCell'])) rfl (by unfold maxLen; omega) (by omega) ?_); intro v' w1 hb1 hk1 hs1; obtain ⟨va, vc, rfl, _, _⟩ := hb1.shape; obtain ⟨d1, d2⟩ := C2.out w1 hk1; obtain ⟨pA, p1, p2, p3, p4, p5, p6, p7, p8⟩ := PP.out _ w1 hb1 hk1 hs1; have PA := Lib.hid (And.intro pA p8); clear hb1 hk1 hs1 pA p8)
      rw [HS.out]
      exact ComeJ.to PA.out hFl hgl (PA.out.1.dv.dv.setBits _ (or_lt8 _ _ hbits (by omega))) (fun h => h)
    · have hC1 : come1M n sk e = { sk with s := pressS sk.s e.by' } := by simp [come1M, hkd]
      rw [hkd] at E1 C2 B1 PP
      rw [hC1] at hS
      have HS := Lib.hid hS
      clear hS hC1
      simp only [comeTM, evC, lateE, hkd]
      gi_wp2_with (gi_at_builtin; go_loud (refine wpListIn_append_buf rfl _ _ 23 rfl 25 3 i0 (.agg #[.int .i64 0, .int .i64 0, .int .u8 0]) 24 Try.underlying23 hif hz0 hz1 hz2 (.slice lva k lvc) _ _ rfl B1.out _ 1 [.int .i64 step, .int .i64 1, .int .u8 e.by'] rfl (Src.ofSlice _ Try.underlying23 ⟨W.heap.size, 0, none⟩ 1 1 [.int .i64 step, .int .i64 1, .int .u8 e.by'] rfl (World.news_of_block (cs := #[.int .i64 step, .int .i64 1, .int .u8 e.by']) (heap_alloc_at _ (by simp))) (by simp [Value.oneCell'])) rfl (by unfold maxLen; omega) (by omega) ?_); intro v' w1 hb1 hk1 hs1; obtain ⟨va, vc, rfl, _, _⟩ := hb1.shape; obtain ⟨d1, d2⟩ := C2.out w1 hk1; obtain ⟨pA, p1, p2, p3, p4, p5, p6, p7, p8⟩ := PP.out _ w1 hb1 hk1 hs1; have PA := Lib.hid (And.intro pA p8); clear hb1 hk1 hs1 pA p8)
      gi_region_with_o (first | (refine ⟨trivial, ?_⟩; gi_at_call 39; refine (CallsIn.inRound l (callsIn_wide.2 (press_at (PA.out.1.dv.dv.keep0 (Keep.refl [] _).drew) e.by' hby))).mono ?_; rintro e9 W9 ⟨⟨v9, rfl⟩, hd9⟩; have H9 := Lib.hid hd9; clear hd9))
      all_goals
        gi_wp2
        rw [HS.out]
        exact ComeJ.to PA.out hFl hgl (H9.out.from0 (Keep.refl [] _).drew) (fun h => h)
    · rw [hkd] at E1 C2 B1 PP
      by_cases hs1 : sk.s.st = 1
      · have q1 : decide (sk.s.st = 1) = true := decide_eq_true hs1
        have o2 : bits .or .u32 (sk.s.bits : Int) 4 = ((sk.s.bits ||| 4 : Nat) : Int) := or_u32 sk.s.bits 4 (by omega) (by omega)
        by_cases hgd : goodN sk.s n
        · by_cases hkk : sk.s.kd = 1
          · have hnil : sk.fs = [] := hBZ.out hs1
            have hC1 : come1M n sk e = ⟨{ sk.s with st := 0, bits := sk.s.bits ||| 4 }, splice sk.L sk.s.to (blkOf sk.s), sk.fs ++ [(sk.s.to : Int) / 64]⟩ := by simp [come1M, hkd, hs1, hgd, hkk]
            rw [hC1] at hS
            have HS := Lib.hid hS
            have HGD := Lib.hid hgd
            have HKK := Lib.hid hkk
            have HNIL := Lib.hid hnil
            have hfl1 : sk.fs.length + 1 ≤ 2 := by rw [hnil]; simp
            clear hS hC1 hs1 hgd hkk hnil
            simp only [comeTM, evC, lateE, hkd]
            gi_wp2_with (first | (gi_at_builtin; go_loud (refine wpListIn_append_buf rfl _ _ 23 rfl 25 3 i0 (.agg #[.int .i64 0, .int .i64 0, .int .u8 0]) 24 Try.underlying23 hif hz0 hz1 hz2 (.slice lva k lvc) _ _ rfl B1.out _ 1 [.int .i64 step, .int .i64 2, .int .u8 e.by'] rfl (Src.ofSlice _ Try.underlying23 ⟨W.heap.size, 0, none⟩ 1 1 [.int .i64 step, .int .i64 2, .int .u8 e.by'] rfl (World.news_of_block (cs := #[.int .i64 step, .int .i64 2, .int .u8 e.by']) (heap_alloc_at _ (by simp))) (by simp [Value.oneCell'])) rfl (by unfold maxLen; omega) (by omega) ?_); intro v' w1 hb1 hk1 hs1; obtain ⟨va, vc, rfl, _, _⟩ := hb1.shape; obtain ⟨d1, d2⟩ := C2.out w1 hk1; obtain ⟨pA, p1, p2, p3, p4, p5, p6, p7, p8⟩ := PP.out _ w1 hb1 hk1 hs1; have PA := Lib.hid (And.intro pA p8); clear hb1 hk1 hs1 pA p8) | (refine ⟨trivial, ?_⟩; gi_at_call 40; refine (CallsIn.inRound l (callsIn_wide.2 (busy_at PA.out.1.dv.dv.c6))).mono ?_; rintro e8 W8 ⟨rfl, rfl⟩))
            gi_region_with_o (first | (refine ⟨trivial, ?_⟩; gi_at_call 41; refine (CallsIn.inRound l (callsIn_wide.2 (done_one (PA.out.1.dv.keep0 (Keep.refl [] _).drew) HGD.out HKK.out))).mono ?_; rintro e9 W9 ⟨rfl, hd9, hk9⟩; have H9 := Lib.hid (ComeJ.toM PA.out hFl hgl hd9 (Keep.trans ((Keep.refl _ _).drew) hk9) (fun j hj => (List.mem_cons.1 hj).symm) (by simp)); obtain ⟨r1, r2, r3, r4, r5⟩ := H9.out.1.reads; have B9 := Lib.hid (Buf.keep0 H9.out.1.hfv ((Keep.refl [] W9).alloc (.cells #[.int .i64 ((sk.s.to : Int) / 64)] 3))); clear hd9 hk9))
            all_goals
              gi_wp2_with (gi_at_builtin; go_loud (refine wpListIn_append_buf rfl _ _ 30 rfl 3 1 j0 (.int .i64 0) 8 Try.underlying30 jif jz0 jz1 jz2 (.slice fva sk.fs.length fvc) _ _ rfl B9.out _ 1 [.int .i64 ((sk.s.to : Int) / 64)] rfl (Src.ofSlice _ Try.underlying30 ⟨W9.heap.size, 0, none⟩ 1 1 [.int .i64 ((sk.s.to : Int) / 64)] rfl (World.news_of_block (cs := #[.int .i64 ((sk.s.to : Int) / 64)]) (heap_alloc_at _ (by simp))) (by simp [Value.oneCell'])) rfl (by unfold maxLen; omega) (by omega) ?_); intro v9 w9 hb9 hk9 hs9; obtain ⟨va9, vc9, rfl, _, _⟩ := hb9.shape; have X9 := ComeJ.frame2 H9.out rfl hFl hbw hgl hrl HNIL.out (by simp) hb9 hk9 hs9; have H10 := Lib.hid X9.1; obtain ⟨_, p1, p2, p3, p4, p5⟩ := X9; clear hb9 hk9 hs9)
              rw [HS.out]
              exact ComeJ.to H10.out hFl hgl (H10.out.1.dv.dv.setBits _ (or_lt8 _ _ hbits (by omega))) (fun h => by simp at h)
          · have hC1 : come1M n sk e = ⟨{ sk.s with st := 0, disk := splice sk.s.disk (64 * sk.s.fr) ((sk.L.drop sk.s.to).take 64), bits := sk.s.bits ||| 4 }, sk.L, sk.fs⟩ := by simp [come1M, hkd, hs1, hgd, hkk]
            rw [hC1] at hS
            have HS := Lib.hid hS
            have HGD := Lib.hid hgd
            have HKK := Lib.hid hkk
            clear hS hC1 hs1 hgd hkk
            simp only [comeTM, evC, lateE, hkd]
            gi_wp2_with (first | (gi_at_builtin; go_loud (refine wpListIn_append_buf rfl _ _ 23 rfl 25 3 i0 (.agg #[.int .i64 0, .int .i64 0, .int .u8 0]) 24 Try.underlying23 hif hz0 hz1 hz2 (.slice lva k lvc) _ _ rfl B1.out _ 1 [.int .i64 step, .int .i64 2, .int .u8 e.by'] rfl (Src.ofSlice _ Try.underlying23 ⟨W.heap.size, 0, none⟩ 1 1 [.int .i64 step, .int .i64 2, .int .u8 e.by'] rfl (World.news_of_block (cs := #[.int .i64 step, .int .i64 2, .int .u8 e.by']) (heap_alloc_at _ (by simp))) (by simp [Value.oneCell'])) rfl (by unfold maxLen; omega) (by omega) ?_); intro v' w1 hb1 hk1 hs1; obtain ⟨va, vc, rfl, _, _⟩ := hb1.shape; obtain ⟨d1, d2⟩ := C2.out w1 hk1; obtain ⟨pA, p1, p2, p3, p4, p5, p6, p7, p8⟩ := PP.out _ w1 hb1 hk1 hs1; have PA := Lib.hid (And.intro pA p8); clear hb1 hk1 hs1 pA p8) | (refine ⟨trivial, ?_⟩; gi_at_call 40; refine (CallsIn.inRound l (callsIn_wide.2 (busy_at PA.out.1.dv.dv.c6))).mono ?_; rintro e8 W8 ⟨rfl, rfl⟩))
            gi_region_with_o (first | (refine ⟨trivial, ?_⟩; gi_at_call 41; refine (CallsIn.inRound l (callsIn_wide.2 (done_two (PA.out.1.dv.keep0 (Keep.refl [] _).drew) HGD.out HKK.out))).mono ?_; rintro e9 W9 ⟨rfl, hd9, hk9⟩; have H9 := Lib.hid (ComeJ.toM PA.out hFl hgl hd9 (Keep.trans ((Keep.refl _ _).drew) hk9) (fun j hj => .inl hj) (by simp)); obtain ⟨r1, r2, r3, r4, r5⟩ := H9.out.1.reads;  clear hd9 hk9))
            all_goals
              gi_wp2
              rw [HS.out]
              have hfin := ComeJ.to H9.out hFl hgl (H9.out.1.dv.dv.setBits _ (or_lt8 sk.s.bits 4 hbits (by omega))) (fun h => by simp at h)
              exact hfin
        · have hC1 : come1M n sk e = { sk with s := { sk.s with st := 2, bits := sk.s.bits ||| 4 } } := by simp [come1M, hkd, hs1, hgd]
          rw [hC1] at hS
          have HS := Lib.hid hS
          have HGD := Lib.hid hgd
          clear hS hC1 hs1 hgd
          simp only [comeTM, evC, lateE, hkd]
          gi_wp2_with (first | (gi_at_builtin; go_loud (refine wpListIn_append_buf rfl _ _ 23 rfl 25 3 i0 (.agg #[.int .i64 0, .int .i64 0, .int .u8 0]) 24 Try.underlying23 hif hz0 hz1 hz2 (.slice lva k lvc) _ _ rfl B1.out _ 1 [.int .i64 step, .int .i64 2, .int .u8 e.by'] rfl (Src.ofSlice _ Try.underlying23 ⟨W.heap.size, 0, none⟩ 1 1 [.int .i64 step, .int .i64 2, .int .u8 e.by'] rfl (World.news_of_block (cs := #[.int .i64 step, .int .i64 2, .int .u8 e.by']) (heap_alloc_at _ (by simp))) (by simp [Value.oneCell'])) rfl (by unfold maxLen; omega) (by omega) ?_); intro v' w1 hb1 hk1 hs1; obtain ⟨va, vc, rfl, _, _⟩ := hb1.shape; obtain ⟨d1, d2⟩ := C2.out w1 hk1; obtain ⟨pA, p1, p2, p3, p4, p5, p6, p7, p8⟩ := PP.out _ w1 hb1 hk1 hs1; have PA := Lib.hid (And.intro pA p8); clear hb1 hk1 hs1 pA p8) | (refine ⟨trivial, ?_⟩; gi_at_call 40; refine (CallsIn.inRound l (callsIn_wide.2 (busy_at PA.out.1.dv.dv.c6))).mono ?_; rintro e8 W8 ⟨rfl, rfl⟩))
          gi_region_with_o (first | (refine ⟨trivial, ?_⟩; gi_at_call 41; refine (CallsIn.inRound l (callsIn_wide.2 (done_no (PA.out.1.dv.dv.keep0 (Keep.refl [] _).drew) (Sz.keep PA.out.1.dv.mem.sz (Keep.refl [] _).drew) (by rw [List.length_range]; exact HGD.out)))).mono ?_; rintro e9 W9 ⟨rfl, hd9⟩; have H9 := Lib.hid hd9; obtain ⟨r1, r2, r3⟩ := PA.out.1.facts hFl hgl hd9; clear hd9))
          all_goals
            gi_wp2
            rw [HS.out]
            exact ComeJ.to PA.out hFl hgl ((H9.out.from0 (Keep.refl [] _).drew).trans (fun F'' hd => hd.setBits _ (or_lt8 _ _ hbits (by omega)))) (fun h => by simp at h)
      · have q1 : decide (sk.s.st = 1) = false := decide_eq_false hs1
        have hC1 : come1M n sk e = sk := by simp [come1M, hkd, hs1]
        rw [hC1] at hS
        have HS := Lib.hid hS
        clear hS hC1 hs1
        simp only [comeTM, evC, lateE, hkd]
        gi_wp2_with (first | (gi_at_builtin; go_loud (refine wpListIn_append_buf rfl _ _ 23 rfl 25 3 i0 (.agg #[.int .i64 0, .int .i64 0, .int .u8 0]) 24 Try.underlying23 hif hz0 hz1 hz2 (.slice lva k lvc) _ _ rfl B1.out _ 1 [.int .i64 step, .int .i64 2, .int .u8 e.by'] rfl (Src.ofSlice _ Try.underlying23 ⟨W.heap.size, 0, none⟩ 1 1 [.int .i64 step, .int .i64 2, .int .u8 e.by'] rfl (World.news_of_block (cs := #[.int .i64 step, .int .i64 2, .int .u8 e.by']) (heap_alloc_at _ (by simp))) (by simp [Value.oneCell'])) rfl (by unfold maxLen; omega) (by omega) ?_); intro v' w1 hb1 hk1 hs1; obtain ⟨va, vc, rfl, _, _⟩ := hb1.shape; obtain ⟨d1, d2⟩ := C2.out w1 hk1; obtain ⟨pA, p1, p2, p3, p4, p5, p6, p7, p8⟩ := PP.out _ w1 hb1 hk1 hs1; have PA := Lib.hid (And.intro pA p8); clear hb1 hk1 hs1 pA p8) | (refine ⟨trivial, ?_⟩; gi_at_call 40; refine (CallsIn.inRound l (callsIn_wide.2 (busy_at PA.out.1.dv.dv.c6))).mono ?_; rintro e8 W8 ⟨rfl, rfl⟩))
        rw [HS.out]
        exact ⟨⟨_, _, _, PA.out.1⟩, PA.out.2⟩
  case done =>
    rintro D k W hD rfl ⟨F', lv, fv, hc⟩ hDf
    obtain ⟨lva, lvc, rfl, _, _⟩ := hc.hlv.shape
    obtain ⟨fva, fvc, hfve, _, _⟩ := hc.hfv.shape
    subst hfve
    have hone := hc.one
    obtain ⟨m, hm1⟩ : ∃ m, m = (comeM n s L (cntD step s.script)).fs.length := ⟨_, rfl⟩
    have c2 : W.cell? ⟨w.heap.size + 1 + 1, 0, none⟩ = some (.slice lva (cntD step s.script) lvc) := cell_of hc.c2 0 rfl
    have c3 : W.cell? ⟨w.heap.size + 1 + 1 + 1, 0, none⟩ = some (.slice fva m fvc) := by rw [hm1]; exact cell_of hc.c3 0 rfl
    rw [← hm1] at hone
    have HC := Lib.hid (And.intro hc (And.intro hDf hm1))
    clear hc hDf hm1
    gi_wp2_with (refine ⟨trivial, ?_⟩; gi_at_call 42; refine (callsIn_wide.2 (sortM _ _ _ _ hone)).mono ?_; rintro e WS ⟨⟨v, rfl⟩, rfl⟩)
    refine wpIn_wide.2 ?_
    go_quiet ((go_at_call 43; exact quiet_same (compactM _ _ _ _ hone)))
    gi_wp2
    have hdr : Keep [] WS (WS.drewN nq) := (Keep.refl _ _).drewN nq
    have hK : (WS.drewN nq).heap[D]? = some (.deferred (some [])) := HC.out.2.1
    refine ⟨by simp, .inl ⟨_, _, rfl, run_takeDeferred hK, ?_⟩⟩
    have hfin := (HC.out.1.keep0 hFl hgl hdr).put hFl hgl (.deferred none) (by omega) hK rfl hrl
    refine ⟨_, results_tmp2 rfl _ _ _, .slice lva (cntD step s.script) lvc, .slice fva m fvc, rfl, hfin.hlv, fun j hj => by have := (hfin.lf j hj).1; omega, ?_, hfin.one, F', hfin.dv, hfin.keep, fun j hj => (hfin.fr j hj).imp id (fun h => by omega), fun j hj => (hfin.lf j hj).2⟩
    rw [HC.out.2.2]
    exact hfin.hfv

end Go.Proofs.Ytgeakpeaohggoaa
