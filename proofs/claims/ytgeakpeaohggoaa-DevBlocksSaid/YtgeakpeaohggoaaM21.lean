/- Contracts of the functions that the law reaches, walked, and the plain laws on them (several texts in one). -/
import Derived.BigRegion
import Derived.Test.YtgeakpeaohggoaaM20

/- Devices: they are loaded as they were saved. -/
namespace Go.Proofs.Ytgeakpeaohggoaa
open Go.RowKit Go.Mum
set_option linter.unusedVariables false
set_option linter.unusedSimpArgs false
set_option maxRecDepth 100000

set_option maxHeartbeats 8000000 in
theorem load_ok {w : World} {A : Array Value} {s : DS} {oa da qa sa : Option Addr} {oc dc qc scc : Nat} (ok : s.Ok) (hord : ordS s.st s.kd s.fr s.to = true)
    (h : SvV A (.slice oa s.out.length oc) (.slice da s.disk.length dc) (.slice qa s.queue.length qc) (.slice sa s.script.length scc) s.bits s.mask s.bk s.ad s.st s.kd s.fr s.to)
    (hO : Row w oa oc s.out) (hD : Row w da dc s.disk) (hQ : Row w qa qc s.queue) (hL : Rd w 3 sa s.script.length scc (evsC s.script)) :
    Calls Try.prog 17 #[.agg A] w fun e w' => ∃ b F, e = .returned (.tuple #[.pointer (some ⟨b, 0, none⟩), .int .i64 0]) ∧ DvAt w' b F s ∧ Keep [] w w' ∧ ∀ k ∈ F, w.heap.size ≤ k := by
  have hh : (w.alloc (.cells A 47)).heap[w.heap.size]? = some (.cells A 47 (0, 0)) := heap_alloc_at _ rfl
  have hk : Keep [] w (w.alloc (.cells A 47)) := (Keep.refl _ _).alloc _
  have HA := Lib.hid h
  obtain ⟨-, c24, c25, c26, c27, c28, -⟩ := h.heap hh
  have O1 := Lib.hid (fun x => ordered_at x h)
  rw [hord] at O1
  have hsz := h.size
  have hE : errS s.script s.disk.length = 0 := by
    unfold errS
    have h1 := ok.script.2
    have h2 := ok.disk.2.1
    rw [if_neg (by omega), if_pos]
    simp only [Bool.and_eq_true, List.all_eq_true, decide_eq_true_eq]
    exact ⟨fun e he => (mayB_iff e).2 (ok.script.1 e he).1, ok.disk.2.2⟩
  have N1 := Lib.hid (new_ok (hL.keep0 hk) (fun e he => (ok.script.1 e he).2) (hD.keep0 hk) hE)
  have HR := Lib.hid (And.intro hO hQ)
  have OK := Lib.hid ok
  have t2 : decide ((32 : Int) < (s.queue.length : Int)) = false := decide_eq_false (by have := ok.queue.2; omega)
  have hq32 : ¬ 32 < s.queue.length := by have := ok.queue.2; omega
  have a1 : bits .andNot .u32 (s.bits : Int) 7 = 0 := by have := andNot7 s.bits (by have := ok.bits; omega); rw [this]; have := ok.bits; omega
  have a2 : bits .andNot .u32 (s.mask : Int) 7 = 0 := by have := andNot7 s.mask (by have := ok.mask; omega); rw [this]; have := ok.mask; omega
  obtain ⟨n1, hn1⟩ : ∃ n, n = w.heap.size := ⟨_, rfl⟩
  have hn1' := Lib.hid hn1
  clear hE hO hD hQ hL ok h hn1
  go_enter Try.func17, Try.ntmps17
  go_wp2_with (first
    | (go_at_call 11; refine N1.out.mono ?_; rintro e w1 ⟨b, F, rfl, hd, hk1, hf⟩; have HK1 := Lib.hid (And.intro hk1 (And.intro hd hf)); have c25' := hk1.cell c25 (by simp); have c27' := hk1.cell c27 (by simp); have c28' := hk1.cell c28 (by simp); have hA := range_row (hk1.heap hh (by simp)); clear hd hk1 hf)
    | (refine wpList_load_midG (by rfl) 47 (.tmp 1) rfl w.heap.size 0 (by rfl) _ _ hA Try.underlying47 rfl (by rw [Array.length_toList, hsz]; exact info_saved) ?_)
    | (go_at_call 45; refine (O1.out _).mono ?_; rintro e w2 ⟨rfl, hk2⟩; have HK2 := Lib.hid hk2; clear hk2))
  rw [← hn1'.out]
  have hx : Keep [] (w.alloc (.cells A 47)) w2 := HK1.out.1.trans HK2.out
  have hA2 : w2.heap[n1]? = some (.cells A 47 (0, 0)) := by rw [hn1'.out]; exact hx.heap hh (by simp)
  obtain ⟨ok1, q0, bl, sc, ou0, hi0, hF⟩ := HK1.out.2.1.keep0 HK2.out
  have KW : Hid (Keep [] w w2) := Lib.hid (hk.trans hx)
  have hnb : n1 < b := by
    have h1 := HK1.out.2.2 b (by rw [hF]; simp)
    have := hn1'.out
    simp at h1; omega
  have hFf : ∀ k ∈ F, n1 < k := fun k hk => by have h1 := HK1.out.2.2 k hk; have := hn1'.out; simp at h1; omega
  have HFF := Lib.hid (And.intro hFf hF)
  clear c24 c25 c26 c27 c28 c25' c27' c28' hA hx hk hh HK1 HK2 N1 O1 hFf hF
  obtain ⟨d23, d24, d25, d26, d27, d28, d29, d30, d31, d32, d33, d34⟩ := HA.out.heap hA2
  obtain ⟨qa0, qc0, hq0, _, _⟩ := hi0.hq.shape
  obtain ⟨oa0, oc0, ho0, _, _⟩ := hi0.hou.shape
  subst hq0 ho0
  have e0 : w2.cell? ⟨b, 0, none⟩ = some (.int .u32 (0 : Nat)) := cell_of hi0.cs 0 rfl
  have e1 : w2.cell? ⟨b, 1, none⟩ = some (.int .u32 (0 : Nat)) := cell_of hi0.cs 1 rfl
  have f0 := frozen_of hi0.cs
  have HI0 := Lib.hid (And.intro hi0 hA2)
  have hbn : ¬ b = n1 := by omega
  have hbn' : ¬ n1 = b := by omega
  clear hi0 hA2
  go_region
  obtain ⟨x1, hx1⟩ : ∃ x1, x1 = (w2.setCell ⟨b, 0, none⟩ (.int .u32 s.bits)).setCell ⟨b, 1, none⟩ (.int .u32 s.mask) := ⟨_, rfl⟩
  rw [← hx1]
  have K1 : Keep [b] w2 x1 := by rw [hx1]; exact ((Keep.refl _ _).setCell (.inl (by simp)) _).setCell (.inl (by simp)) _
  have B1 : x1.heap[b]? = some (.cells (dvC { newD s.script s.disk with bits := s.bits, mask := s.mask } (.slice qa0 0 qc0) bl sc (.slice oa0 0 oc0)) 74 (0, 0)) := by
    rw [hx1, heap_set_same (heap_set_same HI0.out.1.cs 0 _) 1 _]; rfl
  have A1 : x1.heap[n1]? = some (.cells A 47 (0, 0)) := K1.heap HI0.out.2 (by simp; omega)
  clear hx1
  have r23 : x1.drew.cell? ⟨n1, 23, none⟩ = some (.slice oa s.out.length oc) := cell_of A1 23 HA.out.c23
  have r25 : x1.drew.cell? ⟨n1, 25, none⟩ = some (.slice qa s.queue.length qc) := cell_of A1 25 HA.out.c25
  have H1 := Lib.hid (And.intro K1 (And.intro B1 A1))
  clear K1 B1 A1 d23 d24 d25 d26 d27 d28 d29 d30 d31 d32 d33 d34 e0 e1 f0
  go_wp2_with fail
  generalize hy1 : World.drew x1 = y1 at r23 r25 ⊢
  have Y1 : Hid (Keep [] x1 y1) := Lib.hid (by subst hy1; exact (Keep.refl [] _).drew)
  clear hy1
  have r23' : y1.drew.cell? ⟨n1, 23, none⟩ = some (.slice oa s.out.length oc) := r23
  have r25' : y1.drew.cell? ⟨n1, 25, none⟩ = some (.slice qa s.queue.length qc) := r25
  refine wp_region_held_drew (S := fun z => z.cell? ⟨n1, 25, none⟩ = some (.slice qa s.queue.length qc) ∧ z.cell? ⟨n1, 23, none⟩ = some (.slice oa s.out.length oc)) (by kernel_rfl) ⟨r25', r23'⟩ (fun hHeld => ?_)
  generalize hwd : World.drew y1 = y2 at hHeld ⊢
  have Y2 : Hid (Keep [] y1 y2) := Lib.hid (by subst hwd; exact (Keep.refl [] _).drew)
  clear r23 r25 r23' r25' hwd
  skip
  refine wpAnyH_take (i := 0) (oi := { dst := some 48, op := Op.move (Operand.tmp 4), type := 26, pos := "save.go:45", after := #[], guard := none }) (v := ?_) rfl (by kernel_rfl) (by kernel_rfl) (by kernel_rfl) (fun _ _ _ h => h) (Or.inl ⟨by rfl, ?_⟩) (by assumption) ?_
  rotate_left
  focus (intro w hSw; (try dsimp only at hSw); go_simp <;> with_reducible rfl)
  try simp only [Act.put, List.setIfInBounds_toArray, List.set_cons_zero, List.set_cons_succ]
  refine wpAnyH_take (i := 1) (oi := { dst := some 49, op := Op.move (Operand.tmp 4), type := 26, pos := "save.go:45", after := #[{ on := 11, ground := Ground.gcOnly Departure.lateStores }], guard := none }) (v := ?_) rfl (by kernel_rfl) (by kernel_rfl) (by kernel_rfl) (fun _ _ _ h => h) (Or.inl ⟨by rfl, ?_⟩) (by assumption) ?_
  rotate_left
  focus (intro w hSw; (try dsimp only at hSw); go_simp <;> with_reducible rfl)
  try simp only [Act.put, List.setIfInBounds_toArray, List.set_cons_zero, List.set_cons_succ]
  refine wpAnyH_take (i := 2) (oi := { dst := some 50, op := Op.fieldAddr 47 (Operand.tmp 1) 7, type := 0, pos := "save.go:45", after := #[], guard := none }) (v := ?_) rfl (by kernel_rfl) (by kernel_rfl) (by kernel_rfl) (fun _ _ _ h => h) (Or.inl ⟨by rfl, ?_⟩) (by assumption) ?_
  rotate_left
  focus (intro w hSw; (try dsimp only at hSw); go_simp <;> with_reducible rfl)
  try simp only [Act.put, List.setIfInBounds_toArray, List.set_cons_zero, List.set_cons_succ]
  refine wpAnyH_take (i := 3) (oi := { dst := some 51, op := Op.load 22 (Operand.tmp 50), type := 22, pos := "save.go:45", after := #[{ on := 2, ground := Ground.data }], guard := none }) (v := ?_) rfl (by kernel_rfl) (by kernel_rfl) (by kernel_rfl) (fun _ _ _ h => h) (Or.inl ⟨by rfl, ?_⟩) (by assumption) ?_
  rotate_left
  focus (intro w hSw; (try dsimp only at hSw); go_simp <;> with_reducible rfl)
  try simp only [Act.put, List.setIfInBounds_toArray, List.set_cons_zero, List.set_cons_succ]
  refine wpAnyH_take (i := 5) (oi := { dst := some 53, op := Op.fieldAddr 47 (Operand.tmp 1) 5, type := 0, pos := "save.go:45", after := #[], guard := none }) (v := ?_) rfl (by kernel_rfl) (by kernel_rfl) (by kernel_rfl) (fun _ _ _ h => h) (Or.inl ⟨by rfl, ?_⟩) (by assumption) ?_
  rotate_left
  focus (intro w hSw; (try dsimp only at hSw); go_simp <;> with_reducible rfl)
  try simp only [Act.put, List.setIfInBounds_toArray, List.set_cons_zero, List.set_cons_succ]
  refine wpAnyH_take (i := 6) (oi := { dst := some 54, op := Op.load 22 (Operand.tmp 53), type := 22, pos := "save.go:45", after := #[{ on := 5, ground := Ground.data }], guard := none }) (v := ?_) rfl (by kernel_rfl) (by kernel_rfl) (by kernel_rfl) (fun _ _ _ h => h) (Or.inl ⟨by rfl, ?_⟩) (by assumption) ?_
  rotate_left
  focus (intro w hSw; (try dsimp only at hSw); go_simp <;> with_reducible rfl)
  try simp only [Act.put, List.setIfInBounds_toArray, List.set_cons_zero, List.set_cons_succ]
  refine wpAnyH_ready (rs := [4]) (by kernel_rfl) (by simp) ?_
  refine AllReadyH.cons (o := { dst := some 52, op := Op.call { callee := Callee.value (Operand.func 46), args := #[Operand.tmp 51], argTypes := #[22] }, type := 22, pos := "save.go:45", after := #[{ on := 3, ground := Ground.data }], guard := none }) rfl (fun K hK => ?_) AllReadyH.nil
  go_simp
  have kwy : Keep [b] w2 y2 := ((H1.out.1.trans (Y1.out.weaken (fun k hk => by cases hk))).trans (Y2.out.weaken (fun k hk => by cases hk)))
  have kw2 : Keep [] w y2 := KW.out.then kwy (fun j hj hlt => by simp at hj; have := hn1'.out; omega)
  have KW2 := Lib.hid kw2
  have b2 := Y2.out.heap (Y1.out.heap H1.out.2.1 (by simp)) (by simp)
  have n2 := Y2.out.heap (Y1.out.heap H1.out.2.2 (by simp)) (by simp)
  have H2 := Lib.hid (And.intro b2 (And.intro n2 kwy))
  clear kwy kw2 b2 n2
  refine (cloneB_at (HR.out.2.keep0 KW2.out).rd (by have := OK.out.queue.2; omega)).mono ?_
  rintro e x3 ⟨v3, rfl, hb3, hk3, hs3⟩
  obtain ⟨va3, vc3, rfl, _, _⟩ := hb3.shape
  go_wp2_with fail
  refine shut_grow _ hK (fun _ h => h) ⟨hk3.cell hHeld.1 (by simp), hk3.cell hHeld.2 (by simp)⟩ (fun hHeld1 => ?_)
  clear hK K
  skip
  refine wpAnyH_ready (rs := [7]) (by kernel_rfl) (by simp) ?_
  refine AllReadyH.cons (o := { dst := some 55, op := Op.call { callee := Callee.value (Operand.func 46), args := #[Operand.tmp 54], argTypes := #[22] }, type := 22, pos := "save.go:45", after := #[{ on := 6, ground := Ground.data }, { on := 4, ground := Ground.chain }], guard := none }) rfl (fun K hK => ?_) AllReadyH.nil
  go_simp
  refine (cloneB_at (HR.out.1.keep0 (KW2.out.trans hk3)).rd OK.out.out.2).mono ?_
  rintro e x4 ⟨v4, rfl, hb4, hk4, hs4⟩
  obtain ⟨va4, vc4, rfl, _, _⟩ := hb4.shape
  go_wp2_with fail
  refine shut_grow _ hK (fun _ h => h) ⟨hk4.cell hHeld1.1 (by simp), hk4.cell hHeld1.2 (by simp)⟩ (fun hHeld2 => ?_)
  clear hK K
  refine wpAnyH_take (i := 8) (oi := { dst := some 56, op := Op.nilCheck (Operand.tmp 48), type := 0, pos := "save.go:45", after := #[{ on := 0, ground := Ground.data }, { on := 0, ground := Ground.phase }, { on := 1, ground := Ground.textOnly Departure.lateStores }, { on := 2, ground := Ground.phase }, { on := 3, ground := Ground.phase }, { on := 4, ground := Ground.phase }, { on := 5, ground := Ground.textOnly Departure.lateStores }, { on := 6, ground := Ground.textOnly Departure.lateStores }, { on := 7, ground := Ground.phase }], guard := none }) (v := ?_) rfl (by kernel_rfl) (by kernel_rfl) (by kernel_rfl) (fun _ _ _ h => h) (Or.inl ⟨by rfl, ?_⟩) (by assumption) ?_
  rotate_left
  focus (intro w hSw; (try dsimp only at hSw); go_simp <;> with_reducible rfl)
  try simp only [Act.put, List.setIfInBounds_toArray, List.set_cons_zero, List.set_cons_succ]
  refine wpAnyH_take (i := 9) (oi := { dst := some 57, op := Op.fieldAddr 74 (Operand.tmp 56) 0, type := 0, pos := "save.go:45", after := #[{ on := 8, ground := Ground.data }, { on := 0, ground := Ground.phase }, { on := 1, ground := Ground.textOnly Departure.lateStores }, { on := 2, ground := Ground.phase }, { on := 3, ground := Ground.phase }, { on := 4, ground := Ground.phase }, { on := 5, ground := Ground.textOnly Departure.lateStores }, { on := 6, ground := Ground.textOnly Departure.lateStores }, { on := 7, ground := Ground.phase }], guard := none }) (v := ?_) rfl (by kernel_rfl) (by kernel_rfl) (by kernel_rfl) (fun _ _ _ h => h) (Or.inl ⟨by rfl, ?_⟩) (by assumption) ?_
  rotate_left
  focus (intro w hSw; (try dsimp only at hSw); go_simp <;> with_reducible rfl)
  try simp only [Act.put, List.setIfInBounds_toArray, List.set_cons_zero, List.set_cons_succ]
  refine wpAnyH_take (i := 10) (oi := { dst := some 58, op := Op.fieldAddr 67 (Operand.tmp 57) 2, type := 0, pos := "save.go:45", after := #[{ on := 9, ground := Ground.data }, { on := 0, ground := Ground.phase }, { on := 1, ground := Ground.textOnly Departure.lateStores }, { on := 2, ground := Ground.phase }, { on := 3, ground := Ground.phase }, { on := 4, ground := Ground.phase }, { on := 5, ground := Ground.textOnly Departure.lateStores }, { on := 6, ground := Ground.textOnly Departure.lateStores }, { on := 7, ground := Ground.phase }], guard := none }) (v := ?_) rfl (by kernel_rfl) (by kernel_rfl) (by kernel_rfl) (fun _ _ _ h => h) (Or.inl ⟨by rfl, ?_⟩) (by assumption) ?_
  rotate_left
  focus (intro w hSw; (try dsimp only at hSw); go_simp <;> with_reducible rfl)
  try simp only [Act.put, List.setIfInBounds_toArray, List.set_cons_zero, List.set_cons_succ]
  have b4 := hk4.heap (hk3.heap H2.out.1 (by simp)) (by simp)
  have g2 : x4.cell? ⟨b, 2, none⟩ = some (.slice qa0 0 qc0) := cell_of b4 2 rfl
  have g12 : x4.cell? ⟨b, 12, none⟩ = some (.slice oa0 0 oc0) := cell_of b4 12 rfl
  have fb := frozen_of b4
  have m1 : ∀ (z : World) (u : Value) (i : Nat), (z.cell? ⟨n1, 25, none⟩ = some (.slice qa s.queue.length qc) ∧ z.cell? ⟨n1, 23, none⟩ = some (.slice oa s.out.length oc)) → ((z.setCell ⟨b, i, none⟩ u).cell? ⟨n1, 25, none⟩ = some (.slice qa s.queue.length qc) ∧ (z.setCell ⟨b, i, none⟩ u).cell? ⟨n1, 23, none⟩ = some (.slice oa s.out.length oc)) := fun z u i hz =>
    ⟨((Keep.refl [b] z).setCell (p := ⟨b, i, none⟩) (.inl (by simp)) u).cell hz.1 (by simp; omega), ((Keep.refl [b] z).setCell (p := ⟨b, i, none⟩) (.inl (by simp)) u).cell hz.2 (by simp; omega)⟩
  refine wpAnyH_ready (rs := [11]) (by kernel_rfl) (by simp) ?_
  refine AllReadyH.cons (o := { dst := none, op := Op.store 22 (Operand.tmp 58) (Operand.tmp 52), type := 0, pos := "save.go:45", after := #[{ on := 10, ground := Ground.data }, { on := 4, ground := Ground.data }, { on := 7, ground := Ground.chain }, { on := 0, ground := Ground.phase }, { on := 1, ground := Ground.textOnly Departure.lateStores }, { on := 2, ground := Ground.phase }, { on := 3, ground := Ground.phase }, { on := 4, ground := Ground.phase }, { on := 5, ground := Ground.textOnly Departure.lateStores }, { on := 6, ground := Ground.textOnly Departure.lateStores }, { on := 7, ground := Ground.phase }], guard := none }) rfl (fun K hK => ?_) AllReadyH.nil
  go_simp
  refine shut_grow _ hK (fun _ h => h) (m1 _ _ _ hHeld2) (fun hHeld3 => ?_)
  clear hK K
  refine wpAnyH_take (i := 12) (oi := { dst := some 59, op := Op.nilCheck (Operand.tmp 49), type := 0, pos := "save.go:45", after := #[{ on := 1, ground := Ground.data }, { on := 0, ground := Ground.phase }, { on := 1, ground := Ground.phase }, { on := 2, ground := Ground.phase }, { on := 3, ground := Ground.phase }, { on := 4, ground := Ground.phase }, { on := 5, ground := Ground.phase }, { on := 6, ground := Ground.phase }, { on := 7, ground := Ground.phase }, { on := 8, ground := Ground.phase }, { on := 9, ground := Ground.phase }, { on := 10, ground := Ground.phase }, { on := 11, ground := Ground.phase }], guard := none }) (v := ?_) rfl (by kernel_rfl) (by kernel_rfl) (by kernel_rfl) (fun _ _ _ h => h) (Or.inl ⟨by rfl, ?_⟩) (by assumption) ?_
  rotate_left
  focus (intro w hSw; (try dsimp only at hSw); go_simp <;> with_reducible rfl)
  try simp only [Act.put, List.setIfInBounds_toArray, List.set_cons_zero, List.set_cons_succ]
  refine wpAnyH_take (i := 13) (oi := { dst := some 60, op := Op.fieldAddr 74 (Operand.tmp 59) 4, type := 0, pos := "save.go:45", after := #[{ on := 12, ground := Ground.data }, { on := 0, ground := Ground.phase }, { on := 1, ground := Ground.phase }, { on := 2, ground := Ground.phase }, { on := 3, ground := Ground.phase }, { on := 4, ground := Ground.phase }, { on := 5, ground := Ground.phase }, { on := 6, ground := Ground.phase }, { on := 7, ground := Ground.phase }, { on := 8, ground := Ground.phase }, { on := 9, ground := Ground.phase }, { on := 10, ground := Ground.phase }, { on := 11, ground := Ground.phase }], guard := none }) (v := ?_) rfl (by kernel_rfl) (by kernel_rfl) (by kernel_rfl) (fun _ _ _ h => h) (Or.inl ⟨by rfl, ?_⟩) (by assumption) ?_
  rotate_left
  focus (intro w hSw; (try dsimp only at hSw); go_simp <;> with_reducible rfl)
  try simp only [Act.put, List.setIfInBounds_toArray, List.set_cons_zero, List.set_cons_succ]
  refine wpAnyH_ready (rs := [14]) (by kernel_rfl) (by simp) ?_
  refine AllReadyH.cons (o := { dst := none, op := Op.store 22 (Operand.tmp 60) (Operand.tmp 55), type := 0, pos := "save.go:45", after := #[{ on := 13, ground := Ground.data }, { on := 7, ground := Ground.data }, { on := 11, ground := Ground.chain }, { on := 0, ground := Ground.phase }, { on := 1, ground := Ground.phase }, { on := 2, ground := Ground.phase }, { on := 3, ground := Ground.phase }, { on := 4, ground := Ground.phase }, { on := 5, ground := Ground.phase }, { on := 6, ground := Ground.phase }, { on := 7, ground := Ground.phase }, { on := 8, ground := Ground.phase }, { on := 9, ground := Ground.phase }, { on := 10, ground := Ground.phase }, { on := 11, ground := Ground.phase }], guard := none }) rfl (fun K hK => ?_) AllReadyH.nil
  go_simp
  refine shut_grow (fun z => z = (x4.setCell ⟨b, 2, none⟩ (.slice va3 s.queue.length vc3)).setCell ⟨b, 12, none⟩ (.slice va4 s.out.length vc4)) hK (fun z hz => by rw [hz]; exact m1 _ _ _ hHeld3) rfl (fun hHeld4 => ?_)
  clear hK K
  refine wpAnyH_done (by kernel_rfl) ?_ _
  obtain ⟨x5, hx5⟩ : ∃ x5, x5 = (x4.setCell ⟨b, 2, none⟩ (.slice va3 s.queue.length vc3)).setCell ⟨b, 12, none⟩ (.slice va4 s.out.length vc4) := ⟨_, rfl⟩
  rw [← hx5]
  have n4 := hk4.heap (hk3.heap H2.out.2.1 (by simp)) (by simp)
  have K5 : Keep [b] x4 x5 := by rw [hx5]; exact ((Keep.refl _ _).setCell (.inl (by simp)) _).setCell (.inl (by simp)) _
  have B5 : x5.heap[b]? = some (.cells (dvC { newD s.script s.disk with bits := s.bits, mask := s.mask } (.slice va3 s.queue.length vc3) bl sc (.slice va4 s.out.length vc4)) 74 (0, 0)) := by
    rw [hx5, heap_set_same (heap_set_same b4 2 _) 12 _]; rfl
  have A5 : x5.heap[n1]? = some (.cells A 47 (0, 0)) := K5.heap n4 (by simp; omega)
  clear hx5
  obtain ⟨-, -, -, -, -, -, d29, d30, d31, d32, d33, d34⟩ := HA.out.heap A5
  have c4 : x5.cell? ⟨b, 4, none⟩ = some (.int .u32 (0 : Nat)) := cell_of B5 4 rfl
  have c5 : x5.cell? ⟨b, 5, none⟩ = some (.int .u32 (0 : Nat)) := cell_of B5 5 rfl
  have c6 : x5.cell? ⟨b, 6, none⟩ = some (.int .u32 (0 : Nat)) := cell_of B5 6 rfl
  have c7 : x5.cell? ⟨b, 7, none⟩ = some (.int .u32 (0 : Nat)) := cell_of B5 7 rfl
  have c8 : x5.cell? ⟨b, 8, none⟩ = some (.int .u32 (0 : Nat)) := cell_of B5 8 rfl
  have c9 : x5.cell? ⟨b, 9, none⟩ = some (.int .u32 (0 : Nat)) := cell_of B5 9 rfl
  have f5 := frozen_of B5
  have HF := Lib.hid (And.intro (And.intro hb3 (And.intro hk3 hs3)) (And.intro (And.intro hb4 (And.intro hk4 hs4)) (And.intro K5 B5)))
  clear g2 g12 fb b4 n4 m1 hHeld hHeld1 hHeld2 hHeld3 hHeld4 K5 B5 A5 hb3 hk3 hs3 hb4 hk4 hs4
  go_wp2_with fail
  go_region
  obtain ⟨x6, hx6⟩ : ∃ x6, x6 = ((x5.setCell ⟨b, 4, none⟩ (.int .u32 s.bk)).setCell ⟨b, 5, none⟩ (.int .u32 s.ad)).setCell ⟨b, 6, none⟩ (.int .u32 s.st) := ⟨_, rfl⟩
  rw [← hx6]
  have K6 : Keep [b] x5 x6 := by rw [hx6]; exact (((Keep.refl _ _).setCell (.inl (by simp)) _).setCell (.inl (by simp)) _).setCell (.inl (by simp)) _
  have B6 : x6.heap[b]? = some (.cells (dvC { newD s.script s.disk with bits := s.bits, mask := s.mask, bk := s.bk, ad := s.ad, st := s.st } (.slice va3 s.queue.length vc3) bl sc (.slice va4 s.out.length vc4)) 74 (0, 0)) := by
    rw [hx6, heap_set_same (heap_set_same (heap_set_same HF.out.2.2.2 4 _) 5 _) 6 _]; rfl
  clear hx6
  have h32 : x6.drew.cell? ⟨n1, 32, none⟩ = some (.int .u32 s.kd) := K6.cell d32 (by simp; omega)
  have h33 : x6.drew.cell? ⟨n1, 33, none⟩ = some (.int .u32 s.fr) := K6.cell d33 (by simp; omega)
  have h34 : x6.drew.cell? ⟨n1, 34, none⟩ = some (.int .u32 s.to) := K6.cell d34 (by simp; omega)
  have c7' : x6.drew.cell? ⟨b, 7, none⟩ = some (.int .u32 (0 : Nat)) := cell_of B6 7 rfl
  have c8' : x6.drew.cell? ⟨b, 8, none⟩ = some (.int .u32 (0 : Nat)) := cell_of B6 8 rfl
  have c9' : x6.drew.cell? ⟨b, 9, none⟩ = some (.int .u32 (0 : Nat)) := cell_of B6 9 rfl
  have f6 : ∀ i, x6.drew.frozen? ⟨b, i, none⟩ = false := frozen_of B6
  have hB6 : x6.drew.heap[b]? = some (.cells (dvC { newD s.script s.disk with bits := s.bits, mask := s.mask, bk := s.bk, ad := s.ad, st := s.st } (.slice va3 s.queue.length vc3) bl sc (.slice va4 s.out.length vc4)) 74 (0, 0)) := B6
  have k6 : Keep [b] x5 x6.drew := K6.drew
  generalize x6.drew = y6 at h32 h33 h34 c7' c8' c9' f6 hB6 k6 ⊢
  have H6 := Lib.hid (And.intro hB6 k6)
  clear hB6 k6 K6 B6 c4 c5 c6 c7 c8 c9 d29 d30 d31 d32 d33 d34 f5
  go_wp2_with fail
  go_ret2
  obtain ⟨xf, hxf⟩ : ∃ xf, xf = ((y6.setCell ⟨b, 7, none⟩ (.int .u32 s.kd)).setCell ⟨b, 8, none⟩ (.int .u32 s.fr)).setCell ⟨b, 9, none⟩ (.int .u32 s.to) := ⟨_, rfl⟩
  rw [← hxf]
  have K7 : Keep [b] y6 xf := by rw [hxf]; exact (((Keep.refl _ _).setCell (.inl (by simp)) _).setCell (.inl (by simp)) _).setCell (.inl (by simp)) _
  have B7 : xf.heap[b]? = some (.cells (dvC s (.slice va3 s.queue.length vc3) bl sc (.slice va4 s.out.length vc4)) 74 (0, 0)) := by
    rw [hxf, heap_set_same (heap_set_same (heap_set_same H6.out.1 7 _) 8 _) 9 _]; rfl
  clear hxf
  obtain ⟨⟨hb3, hk3, hs3⟩, ⟨hb4, hk4, hs4⟩, K5, _⟩ := HF.out
  have hi0 := HI0.out.1
  have u : ∀ {x y : World}, Keep [] x y → Keep [b] x y := fun h => h.weaken (fun k hk => by cases hk)
  have k4f : Keep [b] x4 xf := (K5.trans H6.out.2).trans K7
  have k3f : Keep [b] x3 xf := (u hk4).trans k4f
  have k2f : Keep [b] y2 xf := (u hk3).trans k3f
  have kwf : Keep [b] w2 xf := H2.out.2.2.trans k2f
  have hnw := hn1'.out
  have z0 := KW.out.size
  have z1 := H2.out.2.2.size
  have z2 := hk3.size
  have z3 := hk4.size
  have hlt := hi0.lt
  have ne : ∀ {l : List Nat}, (∀ k ∈ l, k ≠ b) → ∀ k ∈ l, k ∉ [b] := fun h k hk hm => h k hk (by simpa using hm)
  have hbw : b < w2.heap.size := lt_of_heap hi0.cs
  have e3 : ∀ k ∈ blk (.slice va3 s.queue.length vc3), y2.heap.size ≤ k ∧ k < x3.heap.size := fun k hk => ⟨hs3 k hk, hb3.lt k hk⟩
  have e4 : ∀ k ∈ blk (.slice va4 s.out.length vc4), x3.heap.size ≤ k ∧ k < x4.heap.size := fun k hk => ⟨hs4 k hk, hb4.lt k hk⟩
  have ebl : ∀ k ∈ blk bl, k ≠ b := fun k hk he => hi0.nodup.get (i := 2) (j := 0) (by simp) (by simp) (by omega) k hk (by simp [he])
  have esc : ∀ k ∈ blk sc, k ≠ b := fun k hk he => hi0.nodup.get (i := 3) (j := 0) (by simp) (by simp) (by omega) k hk (by simp [he])
  have ap1 := hi0.nodup.set w2.heap.size 1 hlt (blk (.slice va3 s.queue.length vc3)) (by simp) (fun k hk => .inr (by have := e3 k hk; omega))
  have ap2 := ap1.set x3.heap.size 4 (fun a ha k hk => by
    simp only [List.set_cons_succ, List.set_cons_zero, List.mem_cons, List.not_mem_nil, or_false] at ha
    rcases ha with rfl | rfl | rfl | rfl | rfl
    · simp at hk; omega
    · exact (e3 k hk).2
    · have := hlt _ (by simp) k hk; omega
    · have := hlt _ (by simp) k hk; omega
    · have := hlt _ (by simp) k hk; omega) (blk (.slice va4 s.out.length vc4)) (by simp) (fun k hk => .inr (e4 k hk).1)
  refine ⟨b, rfl, _, ⟨OK.out, _, bl, sc, _, ⟨B7, ?_, ?_, ?_, ?_, ap2⟩, rfl⟩, KW.out.then kwf (fun j hj hlt => by simp at hj; omega), fun k hk => ?_⟩
  · exact hb3.keep k3f (ne (fun k hk => by have := e3 k hk; omega))
  · exact hi0.hbl.keep kwf (ne ebl)
  · exact hi0.hsc.keep kwf (ne esc)
  · exact hb4.keep k4f (ne (fun k hk => by have := e4 k hk; omega))
  · have hF := HFF.out.1
    simp only [List.mem_cons, List.mem_append] at hk
    rcases hk with rfl | ((hk | hk) | hk) | hk
    · omega
    · have := e3 k hk; omega
    · have := hF k (by rw [HFF.out.2]; simp [hk]); omega
    · have := hF k (by rw [HFF.out.2]; simp [hk]); omega
    · have := e4 k hk; omega

end Go.Proofs.Ytgeakpeaohggoaa
