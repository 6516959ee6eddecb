/- Contracts of the functions that the law reaches, walked, and the plain laws on them (several texts in one). -/
import Derived.Outline
import Derived.Deep.WholeRow
import Derived.RangeFuncBox
import Derived.RangeFuncLeaves
import Derived.Shelf.Abstract
import Derived.OwnWalkIn
import Derived.TacticsInMore
import Derived.LoopNIn
import Derived.LoopIn
import Derived.Maps.AppendAt
import Derived.Test.YtpinoejckagjbaaM11

/- All tables are cleared. -/
namespace Go.Proofs.Ytpinoejckagjbaa
open Go.RowKit Go.Mum
set_option linter.unusedVariables false
set_option linter.unusedSimpArgs false
set_option maxRecDepth 100000

theorem tabs_part (T : Nat → Tab) {n : Nat} (hn : n < 32) : (tabsL T).toArray.extract (n * 18) (n * 18 + 18) = (tabL (T n)).toArray := by
  apply Array.ext_getElem?
  intro i
  rw [Array.getElem?_extract]
  by_cases hi : i < 18
  · rw [if_pos (by rw [List.size_toArray, tabsL_len]; omega), List.getElem?_toArray, List.getElem?_toArray, tabsL_get (by omega)]
    have h1 := tabL_at (T n) hi
    rw [List.getD_eq_getElem?_getD] at h1
    have h2 : (tabL (T n))[i]? = some ((tabL (T n))[i]'(by rw [tabL_len]; exact hi)) := List.getElem?_eq_getElem _
    rw [h2] at h1 ⊢
    simp only [Option.getD_some] at h1
    rw [h1]
    unfold shCell
    rw [if_neg (show ¬ (n * 18 + i + 3 = 0) by omega), if_neg (show ¬ (n * 18 + i + 3 = 1) by omega), if_neg (show ¬ (n * 18 + i + 3 = 2) by omega), if_neg (show ¬ (n * 18 + i + 3 = 579) by omega), show (n * 18 + i + 3 - 3) % 18 = i by omega, show (n * 18 + i + 3 - 3) / 18 = n by omega]
  · rw [if_neg (by omega), List.getElem?_toArray, List.getElem?_eq_none (by rw [tabL_len]; omega)]

theorem index_tabs (T : Nat → Tab) {n : Nat} (hn : n < 32) (w : World) : (Instr.index 110 (.agg (tabsL T).toArray) (.int .i64 n)).run Try.prog w = .ok (.agg (tabL (T n)).toArray) w := by
  have hi : (n : Int) < 32 := by omega
  have hagg : (isAgg 109).run Try.prog w = .ok true w := by kernel_rfl
  have hsz : (sizeOf 109).run Try.prog w = .ok 18 w := by kernel_rfl
  have hp : (part 109 (tabsL T).toArray (n * 18)).run Try.prog w = .ok (.agg (tabL (T n)).toArray) w := by
    unfold part
    simp only [Sem.run_bind, hagg, hsz, Result.andThen_ok, Sem.run_pure, if_true]
    rw [tabs_part T hn]
  have hu := run_underlying Try.underlying110 w
  have ha : (asIntOf (.int .i64 n)).run Try.prog w = .ok (.i64, (n : Int)) w := rfl
  unfold Instr.index
  simp only [Sem.run_bind, ha, hu, Result.andThen_ok, hsz]
  rw [if_pos ⟨by omega, by omega⟩]
  simp only [Sem.run_bind, hsz, Result.andThen_ok, Int.toNat_natCast]
  exact hp
theorem wpList_store_new {P : Program} {ops : Array Oper} {rest : List Oper} {op : Oper} {a : Act} {w : World} {Q : Exit → Act → World → Prop} (hgd : op.guard = none) (ty : TypeId) (x y : Operand) (ho : op.op = .store ty x y)
    (w0 : World) (c c' : Array Value) (hw : w = w0.alloc (.cells c ty)) (hx : a.eval x = .pointer (some ⟨w0.heap.size, 0, none⟩)) (hy : a.eval y = .agg c') (hi : (P.info? ty).map (·.size) = some c'.size) (hs : c.size = c'.size) (h1 : c'.all (·.oneCell') = true)
    (h : wpList P ops Q rest (a.put op.dst undef) (w0.alloc (.cells c' ty))) : wpList P ops Q (op :: rest) a w :=
  wpList_plain hgd fun _ hK => by
    subst hw
    have hr := run_storeAt_new (P := P) w0 ty c c' hi hs h1
    unfold Oper.wp execOp
    simp only [ho, hx, hy, Sem.run_bind, hr, Result.andThen_ok, Sem.run_pure]
    exact hK _ _ h

theorem tabL_one (t : Tab) : (tabL t).toArray.all (·.oneCell') = true := by
  rw [Array.all_eq_true_iff_forall_mem]
  intro v hv
  have hv : v ∈ tabL t := by simpa using hv
  simp only [tabL, List.mem_cons, List.mem_map] at hv
  rcases hv with rfl | rfl | ⟨k, _, rfl⟩ <;> rfl

theorem info_tabs' (T : Nat → Tab) : (Try.prog.info? 110).map (·.size) = some (tabsL T).length := by rw [tabsL_len]; exact info_tabs

set_option maxHeartbeats 4000000 in
theorem sclear_at {w : World} {s r fb g p pm most : Nat} {T : Nat → Tab} {L : List Int} {c : Nat} (h : SAt w s r fb g p pm most T L c) :
    Calls Try.prog 54 #[.pointer (some ⟨s, 0, none⟩)] w (fun e w' => (∃ v, e = .returned v) ∧ Hid (Keep [s, g, p, pm] w w' ∧ ∃ L', SAt w' s r fb g p pm most (fun _ => tab0) L' c)) := by
  have HS := Lib.hid h
  obtain ⟨c0, c1, c2, c3⟩ := h.sh.heads
  have C0 := Lib.hid (snone_at c0)
  have hr := h.sh.range
  obtain ⟨lent, tk, sh, hp, hb, hz⟩ := h.pool
  have HP := Lib.hid (And.intro hp (And.intro hb hz))
  have hne := h.ne
  clear h hp hb hz
  go_enter Try.func54, Try.ntmps54
  go_wp2_with fail
  refine C0.out.mono ?_
  rintro e w' ⟨rfl, rfl⟩
  go_wp2_with (refine wpList_load_mid rfl 110 (.tmp 8) rfl s 3 (by rfl) (tabsL T) _ hr Try.underlying110 rfl (info_tabs' T) ?_)
  clear hr
  go_loopw [10] (fun kv wr => ∃ k : Nat, kv = .int .i64 k ∧ k ≤ 32 ∧ Hid (Keep [p, pm] w wr ∧ ∃ lent, PoolAt wr p pm 20 most lent tk sh ∧ ∀ z, z ∈ lent ↔ ∃ m, k ≤ m ∧ m < 32 ∧ (T m).th = true ∧ z = ((T m).fr : Int))) (fun kv _ => 32 - (intOf kv).toNat)
  case atStart => exact ⟨0, rfl, by omega, Lib.hid ⟨Keep.refl _ _, lent, HP.out.1, fun z => by
    rw [HP.out.2.2]
    exact ⟨fun ⟨m, h1, h2, h3⟩ => ⟨m, by omega, h1, h2, h3⟩, fun ⟨m, _, h1, h2, h3⟩ => ⟨m, h1, h2, h3⟩⟩⟩⟩
  case round =>
    obtain ⟨k, rfl, hk1, HR⟩ := hrel
    rename World => wo
    by_cases hk2 : k < 32
    · have hi : (k : Int) < 32 := by omega
      have hidx := index_tabs T hk2
      have HK := Lib.hid hk2
      have htl : ∀ u : World, (u.alloc (.cells (tabL (T k)).toArray 109)).cell? ⟨u.heap.size, 0, none⟩ = some (.bool (T k).th) ∧ (u.alloc (.cells (tabL (T k)).toArray 109)).cell? ⟨u.heap.size, 1, none⟩ = some (.int .i64 ((T k).fr : Nat)) := fun u => ⟨cell_of (heap_alloc_same u _) 0 rfl, cell_of (heap_alloc_same u _) 1 rfl⟩
      have e0 := (htl wo).1
      have e1 := (htl wo).2
      clear htl
      cases hth : (T k).th
      · rw [hth] at e0
        have HT : Hid (∀ o, Keep [p, pm] w (wo.alloc o) ∧ ∃ lent, PoolAt (wo.alloc o) p pm 20 most lent tk sh ∧ ∀ z, z ∈ lent ↔ ∃ m, k + 1 ≤ m ∧ m < 32 ∧ (T m).th = true ∧ z = ((T m).fr : Int)) := Lib.hid (fun o => by
          obtain ⟨hk, l, h1, h2⟩ := HR.out
          refine ⟨hk.alloc o, l, h1.keep ((Keep.refl [] wo).alloc o) (by simp) (by simp), fun z => ?_⟩
          rw [h2]
          constructor
          · rintro ⟨m, q1, q2, q3, q4⟩
            refine ⟨m, ?_, q2, q3, q4⟩
            rcases (by omega : m = k ∨ k + 1 ≤ m) with rfl | h
            · rw [hth] at q3; cases q3
            · exact h
          · rintro ⟨m, q1, q2⟩
            exact ⟨m, by omega, q2⟩)
        clear hth hk2 e1
        go_wp2_with (refine wpList_store_new rfl 109 (.tmp 3) (.tmp 12) rfl wo _ (tabL (T k)).toArray rfl (by rfl) (by rfl) (by rw [List.size_toArray, tabL_len]; exact info_table) (by simp [tabL_len]) (tabL_one _) ?_)
        go_roundw
        case rel => exact ⟨k + 1, by go_num, by omega, Lib.hid (HT.out _)⟩
        case measure => simp [intOf]; omega
      · rw [hth] at e0
        have HTH := Lib.hid hth
        clear hth hk2
        go_wp2_with (refine wpList_store_new rfl 109 (.tmp 3) (.tmp 12) rfl wo _ (tabL (T k)).toArray rfl (by rfl) (by rfl) (by rw [List.size_toArray, tabL_len]; exact info_table) (by simp [tabL_len]) (tabL_one _) ?_)
        obtain ⟨fr, hfr⟩ : ∃ f, f = (T k).fr := ⟨_, rfl⟩
        rw [← hfr] at e1
        have HFR := Lib.hid hfr
        obtain ⟨bx, hbx⟩ : ∃ b, b = wo.heap.size := ⟨_, rfl⟩
        rw [← hbx] at e0 e1 ⊢
        have d1 : (wo.alloc (.cells (tabL (T k)).toArray 109)).cell? ⟨s, 1, none⟩ = some (.pointer (some ⟨p, 0, none⟩)) := (HR.out.1.alloc _).cell c1 (by simp; omega)
        have HB : Hid (bx = wo.heap.size) := Lib.hid hbx
        have hka : Keep [] wo (wo.alloc (.cells (tabL (T k)).toArray 109)) := (Keep.refl _ _).alloc _
        clear hbx hfr
        generalize hy : World.alloc wo _ = y at e0 e1 d1 hka ⊢
        have HY := Lib.hid hka
        clear hy hka e0
        refine wp_region_held_drew (S := fun x => x.cell? ⟨s, 1, none⟩ = some (.pointer (some ⟨p, 0, none⟩)) ∧ x.cell? ⟨bx, 1, none⟩ = some (.int .i64 fr)) (by kernel_rfl) ⟨d1, e1⟩ (fun hHeld => ?_)
        skip
        refine wpAnyH_take (i := 0) (oi := { dst := some 15, op := Op.move (Operand.tmp 0), type := 27, pos := "shadow.go:116", after := #[], guard := none }) (v := ?_) rfl (by kernel_rfl) (by kernel_rfl) (by kernel_rfl) (fun _ _ _ h => h) (Or.inl ⟨by rfl, ?_⟩) (by assumption) ?_
        rotate_left
        focus (intro w hSw; (try dsimp only at hSw); go_simp <;> with_reducible rfl)
        try simp only [Act.put, List.setIfInBounds_toArray, List.set_cons_zero, List.set_cons_succ]
        refine wpAnyH_take (i := 1) (oi := { dst := some 16, op := Op.nilCheck (Operand.tmp 15), type := 0, pos := "shadow.go:116", after := #[{ on := 0, ground := Ground.data }], guard := none }) (v := ?_) rfl (by kernel_rfl) (by kernel_rfl) (by kernel_rfl) (fun _ _ _ h => h) (Or.inl ⟨by rfl, ?_⟩) (by assumption) ?_
        rotate_left
        focus (intro w hSw; (try dsimp only at hSw); go_simp <;> with_reducible rfl)
        try simp only [Act.put, List.setIfInBounds_toArray, List.set_cons_zero, List.set_cons_succ]
        refine wpAnyH_take (i := 2) (oi := { dst := some 17, op := Op.fieldAddr 112 (Operand.tmp 16) 1, type := 0, pos := "shadow.go:116", after := #[{ on := 1, ground := Ground.data }], guard := none }) (v := ?_) rfl (by kernel_rfl) (by kernel_rfl) (by kernel_rfl) (fun _ _ _ h => h) (Or.inl ⟨by rfl, ?_⟩) (by assumption) ?_
        rotate_left
        focus (intro w hSw; (try dsimp only at hSw); go_simp <;> with_reducible rfl)
        try simp only [Act.put, List.setIfInBounds_toArray, List.set_cons_zero, List.set_cons_succ]
        refine wpAnyH_take (i := 3) (oi := { dst := some 18, op := Op.load 28 (Operand.tmp 17), type := 28, pos := "shadow.go:116", after := #[{ on := 2, ground := Ground.data }], guard := none }) (v := ?_) rfl (by kernel_rfl) (by kernel_rfl) (by kernel_rfl) (fun _ _ _ h => h) (Or.inl ⟨by rfl, ?_⟩) (by assumption) ?_
        rotate_left
        focus (intro w hSw; (try dsimp only at hSw); go_simp <;> with_reducible rfl)
        try simp only [Act.put, List.setIfInBounds_toArray, List.set_cons_zero, List.set_cons_succ]
        refine wpAnyH_take (i := 4) (oi := { dst := some 19, op := Op.fieldAddr 109 (Operand.tmp 3) 1, type := 0, pos := "shadow.go:116", after := #[], guard := none }) (v := ?_) rfl (by kernel_rfl) (by kernel_rfl) (by kernel_rfl) (fun _ _ _ h => h) (Or.inl ⟨by rfl, ?_⟩) (by assumption) ?_
        rotate_left
        focus (intro w hSw; (try dsimp only at hSw); go_simp <;> with_reducible rfl)
        try simp only [Act.put, List.setIfInBounds_toArray, List.set_cons_zero, List.set_cons_succ]
        refine wpAnyH_take (i := 5) (oi := { dst := some 20, op := Op.load 3 (Operand.tmp 19), type := 3, pos := "shadow.go:116", after := #[{ on := 4, ground := Ground.data }], guard := none }) (v := ?_) rfl (by kernel_rfl) (by kernel_rfl) (by kernel_rfl) (fun _ _ _ h => h) (Or.inl ⟨by rfl, ?_⟩) (by assumption) ?_
        rotate_left
        focus (intro w hSw; (try dsimp only at hSw); go_simp <;> with_reducible rfl)
        try simp only [Act.put, List.setIfInBounds_toArray, List.set_cons_zero, List.set_cons_succ]
        refine wpAnyH_ready (rs := [6]) (by kernel_rfl) (by simp) ?_
        refine AllReadyH.cons (o := { dst := some 21, op := Op.call { callee := Callee.value (Operand.func 81), args := #[Operand.tmp 18, Operand.tmp 20], argTypes := #[28, 3] }, type := 4, pos := "shadow.go:116", after := #[{ on := 3, ground := Ground.data }, { on := 5, ground := Ground.data }], guard := none }) rfl (fun K hK => ?_) AllReadyH.nil
        go_simp
        obtain ⟨lk, hpl, hzl⟩ := HR.out.2
        have hin : (fr : Int) ∈ lk := (hzl _).2 ⟨k, by omega, HK.out, HTH.out, by rw [HFR.out]⟩
        refine (pgive_in (hpl.keep (HY.out.trans (Keep.refl [] y).drew) (by simp) (by simp)) fr hin).mono ?_
        rintro e z ⟨rfl, hP, hkz⟩
        have hbp : bx ≠ p ∧ bx ≠ pm := by
          have h1 := lt_of_heap hpl.1
          obtain ⟨_, _, h2, _⟩ := hpl.2
          have h2 := lt_of_heap h2
          have := HB.out
          omega
        have x1 := hkz.cell hHeld.1 (by simp; omega)
        have x2 := hkz.cell hHeld.2 (by simp; omega)
        have HT : Hid (Keep [p, pm] w z ∧ ∃ lent, PoolAt z p pm 20 most lent tk sh ∧ ∀ z, z ∈ lent ↔ ∃ m, k + 1 ≤ m ∧ m < 32 ∧ (T m).th = true ∧ z = ((T m).fr : Int)) := Lib.hid (by
          refine ⟨HR.out.1.trans (((HY.out.trans (Keep.refl [] y).drew).weaken (by simp)).trans hkz), _, hP, fun z => ?_⟩
          rw [List.mem_filter, hzl]
          constructor
          · rintro ⟨⟨m, q1, q2, q3, q4⟩, q5⟩
            refine ⟨m, ?_, q2, q3, q4⟩
            rcases (by omega : m = k ∨ k + 1 ≤ m) with rfl | h
            · exfalso
              rw [HFR.out, ← q4] at q5
              simp at q5
            · exact h
          · rintro ⟨m, q1, q2, q3, q4⟩
            refine ⟨⟨m, by omega, q2, q3, q4⟩, ?_⟩
            have : z ≠ (fr : Int) := by
              intro hh
              have := HS.out.inv.inj m k q2 HK.out q3 HTH.out (by have := HFR.out; omega)
              omega
            simpa using this)
        clear hpl hzl hin hP hkz hbp
        go_wp2_with fail
        refine shut_grow (fun x => x = z) hK (fun _ h => by rw [h]; exact ⟨x1, x2⟩) rfl (fun hHeld => ?_)
        clear hK K
        refine wpAnyH_done (by kernel_rfl) ?_ _
        clear hHeld
        go_wp2_with fail
        go_roundw
        case rel => exact ⟨k + 1, by go_num, by omega, HT⟩
        case measure => simp [intOf]; omega
    · have hi : ¬ ((k : Int) < 32) := by omega
      have HB : Hid (ShAt wo s r p 8 T ∧ RamAt wo r fb g (List.range 40) L ∧ Keep [p, pm] w wo ∧ ∃ lent, PoolAt wo p pm 20 most lent tk sh ∧ ∀ z, z ∉ lent) := Lib.hid (by
        obtain ⟨hk, l, h1, h2⟩ := HR.out
        refine ⟨HS.out.sh.keep hk (by simp; omega), HS.out.ram.keep hk (by simp; omega) (by simp; omega) (by simp; omega), hk, l, h1, fun z hz => ?_⟩
        obtain ⟨m, q1, q2, _⟩ := (h2 z).1 hz
        omega)
      have CB := Lib.hid (sbegin_at (dir := 8) HB.out.1 HB.out.2.1 HS.out.inv.len (by omega) (by omega) ⟨by omega, by omega, by omega⟩)
      clear HR hk1 hk2
      go_wp2_with fail
      refine CB.out.mono ?_
      rintro e z ⟨⟨v, rfl⟩, h1, h2, h3⟩
      have HF : Hid (Keep [s, g, p, pm] w z ∧ ∃ L', SAt z s r fb g p pm most (fun _ => tab0) L' c) := Lib.hid (by
        obtain ⟨l, q1, q2⟩ := HB.out.2.2.2
        refine ⟨(HB.out.2.2.1.weaken (by simp)).trans (h3.weaken (by simp)), _, h1, h2, HS.out.inv.clear, ⟨l, tk, sh, q1.keep h3 (by simp; omega) (by simp; omega), HP.out.2.1, fun z => ⟨fun h => absurd h (q2 z), ?_⟩⟩, HS.out.ne⟩
        rintro ⟨m, _, h, _⟩; cases h)
      clear h1 h2 h3
      go_wp2_with fail
      go_end0
      exact ⟨⟨_, rfl⟩, HF⟩
end Go.Proofs.Ytpinoejckagjbaa

/- The pages of a shadow: asked for by a function that goes on round by round. -/
namespace Go.Proofs.Ytpinoejckagjbaa
open Go.RowKit Go.Mum Go.Shelf
set_option linter.unusedVariables false
set_option linter.unusedSimpArgs false
set_option maxRecDepth 100000

attribute [local go_sem] Oper.semAt_some

section
variable {F : Fence} {n : Nat} {P : Program} {ops : Array Oper} {rest : List Oper} {op : Oper} {a : Act} {w : World} {Q : Exit → Act → World → Prop}

theorem wpListIn_load_mid (hgd : op.guard = none) (ty : TypeId) (x : Operand) (ho : op.op = .load ty x) (b o : Nat) (hx : a.eval x = .pointer (some ⟨b, o, none⟩)) (cs : List Value) (d : TypeDesc) (hc : w.rangeAt b o cs)
    (hu : P.underlying ty = some d) (hd : d.isRow = true) (hi : (P.info? ty).map (·.size) = some cs.length)
    (h : wpListIn F n P ops Q rest (a.put op.dst (.agg cs.toArray)) w) : wpListIn F n P ops Q (op :: rest) a w := by
  refine wpListIn_plain hgd fun K hK' => ?_
  have hr := run_loadAt_mid (P := P) w b o ty cs d hc hu hd hi
  unfold Oper.wpIn
  refine ⟨?_, ?_⟩
  · simp [Oper.about, ho]
  · rw [Oper.semAt_plain F _ _ (by rw [ho]; intro c hc'; cases hc')]
    simp [execOp, ho, hx, hr, Result.andThen]
    exact hK' _ _ h

theorem wpListIn_build (hgd : op.guard = none) (ty : TypeId) (parts : Array (Nat × Operand)) (ho : op.op = .build ty parts)
    (v : Value) (hv : (Instr.build ty (parts.map fun (i, x) => (i, a.eval x))).run P w = .ok v w) (h : wpListIn F n P ops Q rest (a.put op.dst v) w) : wpListIn F n P ops Q (op :: rest) a w := by
  refine wpListIn_plain hgd fun K hK' => ?_
  unfold Oper.wpIn
  refine ⟨?_, ?_⟩
  · simp [Oper.about, ho]
  · rw [Oper.semAt_plain F _ _ (by rw [ho]; intro c hc'; cases hc')]
    simp [execOp, ho, hv, Result.andThen]
    exact hK' _ _ h

theorem wpListIn_eql (hgd : op.guard = none) (ty tr : TypeId) (x y : Operand) (ho : op.op = .binOp .eql ty x y tr) (u v : Value) (hx : a.eval x = u) (hy : a.eval y = v) (b : Bool)
    (hr : ((do eqGuard .eql ty x y u v; binOp .eql ty u v) : Sem Value).run P w = .ok (.bool b) w) (h : wpListIn F n P ops Q rest (a.put op.dst (.bool b)) w) : wpListIn F n P ops Q (op :: rest) a w := by
  refine wpListIn_plain hgd fun K hK' => ?_
  unfold Oper.wpIn
  refine ⟨?_, ?_⟩
  · simp [Oper.about, ho]
  · rw [Oper.semAt_plain F _ _ (by rw [ho]; intro c hc'; cases hc')]
    simp only [execOp, ho, hx, hy, Sem.run_bind, hr, Result.andThen, Sem.run_pure] at *
    first
      | exact hK' _ _ h
      | (rw [hr]; exact hK' _ _ h)

theorem wpListIn_store_new (hgd : op.guard = none) (ty : TypeId) (x y : Operand) (ho : op.op = .store ty x y)
    (w0 : World) (c c' : Array Value) (hw : w = w0.alloc (.cells c ty)) (hx : a.eval x = .pointer (some ⟨w0.heap.size, 0, none⟩)) (hy : a.eval y = .agg c') (hi : (P.info? ty).map (·.size) = some c'.size) (hs : c.size = c'.size) (h1 : c'.all (·.oneCell') = true)
    (h : wpListIn F n P ops Q rest (a.put op.dst undef) (w0.alloc (.cells c' ty))) : wpListIn F n P ops Q (op :: rest) a w := by
  refine wpListIn_plain hgd fun K hK' => ?_
  subst hw
  have hr := run_storeAt_new (P := P) w0 ty c c' hi hs h1
  unfold Oper.wpIn
  refine ⟨?_, ?_⟩
  · simp [Oper.about, ho]
  · rw [Oper.semAt_plain F _ _ (by rw [ho]; intro c hc'; cases hc')]
    simp [execOp, ho, hx, hy, hr, Result.andThen]
    exact hK' _ _ h
end

/-- The entries of a table. -/
def entL (t : Tab) : List Value := (List.range 16).map (fun k => .int .u32 (t.en k : Nat))

theorem entL_len (t : Tab) : (entL t).length = 16 := by simp [entL]

theorem build_ents (w : World) : (Instr.build 107 #[]).run Try.prog w = .ok (.agg (entL tab0).toArray) w := by kernel_rfl


theorem eql_ents (x y : Operand) (w : World) : ((do eqGuard .eql 107 (.tmp 16) (.tmp 17) (.agg (entL tab0).toArray) (.agg (entL tab0).toArray); binOp .eql 107 (.agg (entL tab0).toArray) (.agg (entL tab0).toArray)) : Sem Value).run Try.prog w = .ok (.bool true) w := by kernel_rfl

theorem info_ents : (Try.prog.info? 107).map (·.size) = some 16 := by kernel_rfl

/-- The pages that each shows. -/
def EachOK (sv : Nat) (pl : List Int) (w : World) : Prop :=
  ∀ (n Bs : Nat) (w1 : World), 1 ≤ n → Below w.heap.size w w1 → Bs < w1.heap.size → w1.cell? ⟨Bs, 0, none⟩ = some (.pointer (some ⟨sv, 0, none⟩)) →
    SeqStopsK Fence.wide n Try.prog 84 #[.pointer (some ⟨Bs, 0, none⟩)] (fun x : Int => #[Value.int .u32 x]) (Below w.heap.size) (fun ys => ys = pl) (fun pre => pre <+: pl) 512 w1

theorem keep_grown {w x : World} (h : Go.Mum.Keep [] w x) : w.grownBy x none := ⟨h.os, h.tape, h.output, h.size, fun k hk _ => h.block k hk (by simp)⟩

theorem below_keep {B : Nat} {w x : World} (h : Below B w x) (hs : w.heap.size ≤ B) : Go.Mum.Keep [] w x := ⟨h.os, h.tape, h.output, h.size, fun k hk _ => h.block k (by omega)⟩

set_option maxHeartbeats 2000000 in
theorem each_none {w : World} {s r p : Nat} {dir : Int} (h : ShAt w s r p dir (fun _ => tab0)) : EachOK s [] w := by
  intro n Bs w1 hn hB hBs hcell l J Jx W hW hJ hJx hY h0
  have hkw : Go.Mum.Keep [] w W := below_keep (hB.trans (hW.mono hB.size)) (Nat.le_refl _)
  have hS : ShAt W s r p dir (fun _ => tab0) := h.keep hkw (by simp)
  have hc : W.cell? ⟨Bs, 0, none⟩ = some (.pointer (some ⟨s, 0, none⟩)) := (hW.cell (p := ⟨Bs, 0, none⟩) hBs).trans hcell
  have hr := hS.range
  have HJ : Hid (∀ z, Go.Mum.Keep [] W z → J [] z) := Lib.hid (fun z hz => hJ [] W z none h0 (keep_grown hz) (by intro r hr; cases hr))
  clear hY hJ hJx h0 hcell hS h hkw hW
  refine callsIn_of_wp Try.func84 rfl trivial ?_ rfl
  simp only [Try.ntmps84, List.size_toArray, List.length_cons, List.length_nil, Nat.reduceAdd, Nat.reduceSub, Array.replicate_succ, Array.replicate_zero, List.push_toArray, List.append_toArray, List.nil_append, List.cons_append]
  gi_wp2_with (refine wpListIn_load_mid rfl 110 (.tmp 9) rfl s 3 (by rfl) (tabsL (fun _ => tab0)) _ hr Try.underlying110 rfl (info_tabs' _) ?_)
  gi_loopw [11] (fun kv wr => ∃ k : Nat, kv = .int .i64 k ∧ k ≤ 32 ∧ Hid (Go.Mum.Keep [] W wr)) (fun kv _ => 32 - (intOf kv).toNat)
  case atStart => exact ⟨0, rfl, by omega, Lib.hid (Go.Mum.Keep.refl _ _)⟩
  case round =>
    obtain ⟨k, rfl, hk1, HR⟩ := hrel
    rename World => wo
    by_cases hk2 : k < 32
    · have hi : (k : Int) < 32 := by omega
      have hidx := index_tabs (fun _ => tab0) hk2
      have hidx : ∀ w, (Instr.index 110 (.agg (tabsL (fun _ => tab0)).toArray) (.int .i64 k)).run Try.prog w = .ok (.agg (tabL tab0).toArray) w := hidx
      have hrng : ∀ u : World, (u.alloc (.cells (tabL tab0).toArray 109)).rangeAt u.heap.size 2 (entL tab0) := fun u j v hj => by
        have hc : (u.alloc (.cells (tabL tab0).toArray 109)).heap[u.heap.size]? = some (.cells (tabL tab0).toArray 109 (0, 0)) := heap_alloc_same u _
        refine cell_of hc (2 + j) ?_
        rw [List.getElem?_toArray, Nat.add_comm 2 j]
        exact hj
      have hr1 := hrng wo
      have HT : Hid (∀ o, Go.Mum.Keep [] W (wo.alloc o)) := Lib.hid (fun o => HR.out.alloc o)
      clear hk2 hrng hr
      gi_wp2_with (first
        | (refine wpListIn_store_new rfl 109 (.tmp 4) (.tmp 14) rfl wo _ (tabL tab0).toArray rfl (by rfl) (by rfl) (by rw [List.size_toArray, tabL_len]; exact info_table) (by simp [tabL_len]) (tabL_one _) ?_)
        | (refine wpListIn_load_mid rfl 107 (.tmp 15) rfl wo.heap.size 2 (by rfl) (entL tab0) _ hr1 Try.underlying107 rfl (by rw [entL_len]; exact info_ents) ?_)
        | (refine wpListIn_build rfl 107 #[] rfl (.agg (entL tab0).toArray) (by exact build_ents _) ?_)
        | (refine wpListIn_eql rfl 107 107 (.tmp 16) (.tmp 17) rfl (.agg (entL tab0).toArray) (.agg (entL tab0).toArray) (by rfl) (by rfl) true (by exact eql_ents (.tmp 16) (.tmp 17) _) ?_))
      go_roundw
      case rel => exact ⟨k + 1, by go_num, by omega, Lib.hid (HT.out _)⟩
      case measure => simp [intOf]; omega
    · have hi : ¬ ((k : Int) < 32) := by omega
      gi_wp2
      go_end0
      exact ⟨⟨_, rfl⟩, .inl (HJ.out _ HR.out)⟩

theorem seach_at (s : Nat) (w : World) :
    Calls Try.prog 57 #[.pointer (some ⟨s, 0, none⟩)] w fun e w' => e = .returned (.func (.func 84) #[] #[.pointer (some ⟨w.heap.size, 0, none⟩)]) ∧ w' = w.alloc (.cells #[.pointer (some ⟨s, 0, none⟩)] 27) := by
  go_enter Try.func57, Try.ntmps57
  go_wp2
  go_ret
  exact ⟨rfl, rfl⟩

theorem info_u32 : (Try.prog.info? 22).map (fun i => (i.zero, i.size, i.bytes)) = some (some (.int .u32 0), 1, 4) := by kernel_rfl

def PagesPost (l : List Int) (w : World) (e : Ending) (w' : World) : Prop :=
  ∃ v, e = .returned v ∧ w'.ownsRow w.heap.size 22 1 v l.length (l.map (Value.int .u32)) ∧ Below w.heap.size w w'

set_option maxRecDepth 100000 in
set_option maxHeartbeats 2000000 in
theorem spages_at {w : World} {s : Nat} {r : Nat} {pl : List Int} (h : EachOK s pl w) (h0 : w.cell? ⟨s, 0, none⟩ = some (.pointer (some ⟨r, 0, none⟩))) :
    Calls Try.prog 23 #[.pointer (some ⟨s, 0, none⟩)] w (PagesPost pl w) := by
  refine (callsIn_wide (n := 3)).1 ?_
  obtain ⟨i0, hi, hz0, hz1, hz2⟩ := info_parts info_u32
  have E := Lib.hid (fun W => seach_at s W)
  have C0 := Lib.hid (snone_at h0)
  have H := Lib.hid h
  clear h
  refine callsIn_of_wp_marks Try.func23 rfl trivial ?_ rfl
  simp only [Try.ntmps23, List.size_toArray, List.length_cons, List.length_nil, Nat.reduceAdd, Nat.reduceSub, Array.replicate_succ, Array.replicate_zero, List.push_toArray, List.append_toArray, List.nil_append, List.cons_append]
  gi_wp2_with (first
    | (refine ⟨trivial, ?_⟩; gi_at_call 45; refine (callsIn_wide.2 C0.out).mono ?_; rintro e w' ⟨rfl, rfl⟩)
    | (refine ⟨trivial, ?_⟩; gi_at_call 57; refine (callsIn_wide.2 (E.out _)).mono ?_; rintro e w' ⟨rfl, rfl⟩))
  have bO := Boxed.new w 44 (.slice none 0 0)
  have hB0 : Below w.heap.size w ((w.alloc (.cells #[.slice none 0 0] 44)).alloc (.cells #[.pointer (some ⟨s, 0, none⟩)] 27)) := ((Below.refl _ w).alloc (Nat.le_refl _) _).alloc (by simp) _
  have c1 : ((w.alloc (.cells #[.slice none 0 0] 44)).alloc (.cells #[.pointer (some ⟨s, 0, none⟩)] 27)).cell? ⟨w.heap.size + 1, 0, none⟩ = some (.pointer (some ⟨s, 0, none⟩)) :=
    cell_of (heap_alloc_at _ (by simp)) 0 rfl
  refine wpIn_rangeFunc_ownG rfl (by omega) (gf := 84) (lb := #[.pointer (some ⟨w.heap.size + 1, 0, none⟩)]) rfl trivial (enters_of Try.func84 (by kernel_rfl) rfl)
    (H.out (3 - 1) (w.heap.size + 1) _ (by omega) hB0 (by simp) c1) belowK_t (belowK_b (by simp; omega)) (Below.refl _ _) (fun _ => rfl)
    (fun pre W => (∃ u, Boxed W w.heap.size 44 u ∧ W.ownsRow w.heap.size 22 1 u pre.length (pre.map (Value.int .u32)) ∧ (u = .slice none 0 0 ↔ pre = [])) ∧ Below w.heap.size w W)
    (fun _ _ _ => False)
    (OwnFrom.and (Own.from (holdsRow_own w.heap.size w.heap.size 44 22 1 (fun pre => pre.length) (fun pre => pre.map (Value.int .u32)) (fun pre u => u = .slice none 0 0 ↔ pre = [])) _) (ownFrom_below (Nat.le_refl _) (by simp; omega)))
    (fun _ _ _ _ _ hs _ _ => hs)
    ⟨⟨_, bO.alloc _, World.ownsRow_nil _ _ _ _, by simp⟩, hB0⟩
    (fun x => { tmps := #[.pointer (some ⟨s, 0, none⟩), undef, .slice none 0 0, .pointer (some ⟨w.heap.size, 0, none⟩), .int .u32 x, .pointer (some ⟨s, 0, none⟩), .bool false, .pointer (some ⟨s, 0, none⟩), .func (.func 84) #[] #[.pointer (some ⟨w.heap.size + 1, 0, none⟩)], .int .u32 x, undef, undef, undef, undef, undef], defers := [] }) ?assign ?body ?done ?stop
  case assign =>
    intro l x W K hK
    gi_wp2
    exact hK
  case body =>
    rintro l pre x W ⟨⟨u, hv, hrow, hnil⟩, hB⟩ hlt
    have hc := hv.cell
    gi_wp2_with (gi_at_builtin; refine wpListIn_append_own _ rfl _ _ 44 rfl w.heap.size 22 i0 (.int .u32 0) 1 4 Try.underlying44 hi hz0 hz1 hz2 rfl (by decide) _ _ _ rfl (hrow.alloc _) ⟨W.heap.size, 0, none⟩ 1 1 [.int .u32 x] rfl rfl (cell_one_new _ _ _) (by simp [Value.oneCell']) (by unfold maxLen; omega) (by omega) (by have := hB.size; simp; omega) ?_; intro v' w1 hown' hgrow _; obtain ⟨g', cap', rfl⟩ := ownsRow_succ hown'; obtain ⟨hv1, hv2, hr2, hk2, hb2⟩ := hv.appended (by decide) hrow hB.size (Nat.le_refl _) hown' hgrow; have hc1 := hv1.cell; have hf1 := hv1.frozen)
    exact ⟨hk2.from _, hb2, ⟨_, hv2, by simpa using hr2, by simp⟩, hB.trans hb2⟩
  case done =>
    rintro D ys W hD rfl ⟨⟨u, hv, hrow, hnil⟩, hB⟩ hK
    have hc := hv.cell
    gi_wp2
    refine ⟨by simp, .inl ⟨_, _, rfl, run_takeDeferred hK, ?_⟩⟩
    exact ⟨_, results_tmp rfl _ _ _, u, rfl, ownsRow_putObj hrow _ hK rfl, hB.trans (belowK_b (w := w) (Nat.le_refl _) W D _ _ (by simp at hD; omega) hK rfl rfl)⟩
  case stop =>
    rintro D c pre W _ _ h _
    exact h.elim

theorem spages_nil (w : World) : Calls Try.prog 23 #[.pointer none] w fun e w' => e = .returned (.slice none 0 0) ∧ w = w' := by
  go_enter Try.func23, Try.ntmps23
  go_wp2_with fail
  refine (snone_nil _).mono ?_
  rintro e w' ⟨rfl, rfl⟩
  go_wp2_with fail
  go_ret
  exact ⟨rfl, rfl⟩
end Go.Proofs.Ytpinoejckagjbaa
