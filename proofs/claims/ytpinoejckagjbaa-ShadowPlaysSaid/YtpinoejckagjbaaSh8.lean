/- All tables are cleared. -/
import Derived.Test.YtpinoejckagjbaaSh6
import Derived.Outline
import Derived.Deep.WholeRow
namespace Go.Proofs.Ytpinoejckagjbaa
open Go.RowKit Go.Mum
set_option linter.unusedVariables false
set_option linter.unusedSimpArgs false
set_option maxRecDepth 100000

theorem tabs_part (T : Nat → Tab) {n : Nat} (hn : n < 32) : (tabsL T).toArray.extract (n * 18) (n * 18 + 18) = (tabL (T n)).toArray := by
  apply Array.ext_getElem?
  intro i
  rw [Array.getElem?_extract]
  by_cases hi : i < 18
  · rw [if_pos (by rw [List.size_toArray, tabsL_len]; omega), List.getElem?_toArray, List.getElem?_toArray, tabsL_get (by omega)]
    have h1 := tabL_at (T n) hi
    rw [List.getD_eq_getElem?_getD] at h1
    have h2 : (tabL (T n))[i]? = some ((tabL (T n))[i]'(by rw [tabL_len]; exact hi)) := List.getElem?_eq_getElem _
    rw [h2] at h1 ⊢
    simp only [Option.getD_some] at h1
    rw [h1]
    unfold shCell
    rw [if_neg (show ¬ (n * 18 + i + 3 = 0) by omega), if_neg (show ¬ (n * 18 + i + 3 = 1) by omega), if_neg (show ¬ (n * 18 + i + 3 = 2) by omega), if_neg (show ¬ (n * 18 + i + 3 = 579) by omega), show (n * 18 + i + 3 - 3) % 18 = i by omega, show (n * 18 + i + 3 - 3) / 18 = n by omega]
  · rw [if_neg (by omega), List.getElem?_toArray, List.getElem?_eq_none (by rw [tabL_len]; omega)]

theorem index_tabs (T : Nat → Tab) {n : Nat} (hn : n < 32) (w : World) : (Instr.index 110 (.agg (tabsL T).toArray) (.int .i64 n)).run Try.prog w = .ok (.agg (tabL (T n)).toArray) w := by
  have hi : (n : Int) < 32 := by omega
  have hagg : (isAgg 109).run Try.prog w = .ok true w := by kernel_rfl
  have hsz : (sizeOf 109).run Try.prog w = .ok 18 w := by kernel_rfl
  have hp : (part 109 (tabsL T).toArray (n * 18)).run Try.prog w = .ok (.agg (tabL (T n)).toArray) w := by
    unfold part
    simp only [Sem.run_bind, hagg, hsz, Result.andThen_ok, Sem.run_pure, if_true]
    rw [tabs_part T hn]
  have hu := run_underlying Try.underlying110 w
  have ha : (asIntOf (.int .i64 n)).run Try.prog w = .ok (.i64, (n : Int)) w := rfl
  unfold Instr.index
  simp only [Sem.run_bind, ha, hu, Result.andThen_ok, hsz]
  rw [if_pos ⟨by omega, by omega⟩]
  simp only [Sem.run_bind, hsz, Result.andThen_ok, Int.toNat_natCast]
  exact hp
theorem wpList_store_new {P : Program} {ops : Array Oper} {rest : List Oper} {op : Oper} {a : Act} {w : World} {Q : Exit → Act → World → Prop} (hgd : op.guard = none) (ty : TypeId) (x y : Operand) (ho : op.op = .store ty x y)
    (w0 : World) (c c' : Array Value) (hw : w = w0.alloc (.cells c ty)) (hx : a.eval x = .pointer (some ⟨w0.heap.size, 0, none⟩)) (hy : a.eval y = .agg c') (hi : (P.info? ty).map (·.size) = some c'.size) (hs : c.size = c'.size) (h1 : c'.all (·.oneCell') = true)
    (h : wpList P ops Q rest (a.put op.dst undef) (w0.alloc (.cells c' ty))) : wpList P ops Q (op :: rest) a w :=
  wpList_plain hgd fun _ hK => by
    subst hw
    have hr := run_storeAt_new (P := P) w0 ty c c' hi hs h1
    unfold Oper.wp execOp
    simp only [ho, hx, hy, Sem.run_bind, hr, Result.andThen_ok, Sem.run_pure]
    exact hK _ _ h

theorem tabL_one (t : Tab) : (tabL t).toArray.all (·.oneCell') = true := by
  rw [Array.all_eq_true_iff_forall_mem]
  intro v hv
  have hv : v ∈ tabL t := by simpa using hv
  simp only [tabL, List.mem_cons, List.mem_map] at hv
  rcases hv with rfl | rfl | ⟨k, _, rfl⟩ <;> rfl

theorem info_tabs' (T : Nat → Tab) : (Try.prog.info? 110).map (·.size) = some (tabsL T).length := by rw [tabsL_len]; exact info_tabs

set_option maxHeartbeats 4000000 in
theorem sclear_at {w : World} {s r fb g p pm most : Nat} {T : Nat → Tab} {L : List Int} {c : Nat} (h : SAt w s r fb g p pm most T L c) :
    Calls Try.prog 54 #[.pointer (some ⟨s, 0, none⟩)] w (fun e w' => (∃ v, e = .returned v) ∧ Hid (Keep [s, g, p, pm] w w' ∧ ∃ L', SAt w' s r fb g p pm most (fun _ => tab0) L' c)) := by
  have HS := Lib.hid h
  obtain ⟨c0, c1, c2, c3⟩ := h.sh.heads
  have C0 := Lib.hid (snone_at c0)
  have hr := h.sh.range
  obtain ⟨lent, tk, sh, hp, hb, hz⟩ := h.pool
  have HP := Lib.hid (And.intro hp (And.intro hb hz))
  have hne := h.ne
  clear h hp hb hz
  go_enter Try.func54, Try.ntmps54
  go_wp2_with fail
  refine C0.out.mono ?_
  rintro e w' ⟨rfl, rfl⟩
  go_wp2_with (refine wpList_load_mid rfl 110 (.tmp 8) rfl s 3 (by rfl) (tabsL T) _ hr Try.underlying110 rfl (info_tabs' T) ?_)
  clear hr
  go_loopw [10] (fun kv wr => ∃ k : Nat, kv = .int .i64 k ∧ k ≤ 32 ∧ Hid (Keep [p, pm] w wr ∧ ∃ lent, PoolAt wr p pm 20 most lent tk sh ∧ ∀ z, z ∈ lent ↔ ∃ m, k ≤ m ∧ m < 32 ∧ (T m).th = true ∧ z = ((T m).fr : Int))) (fun kv _ => 32 - (intOf kv).toNat)
  case atStart => exact ⟨0, rfl, by omega, Lib.hid ⟨Keep.refl _ _, lent, HP.out.1, fun z => by
    rw [HP.out.2.2]
    exact ⟨fun ⟨m, h1, h2, h3⟩ => ⟨m, by omega, h1, h2, h3⟩, fun ⟨m, _, h1, h2, h3⟩ => ⟨m, h1, h2, h3⟩⟩⟩⟩
  case round =>
    obtain ⟨k, rfl, hk1, HR⟩ := hrel
    rename World => wo
    by_cases hk2 : k < 32
    · have hi : (k : Int) < 32 := by omega
      have hidx := index_tabs T hk2
      have HK := Lib.hid hk2
      have htl : ∀ u : World, (u.alloc (.cells (tabL (T k)).toArray 109)).cell? ⟨u.heap.size, 0, none⟩ = some (.bool (T k).th) ∧ (u.alloc (.cells (tabL (T k)).toArray 109)).cell? ⟨u.heap.size, 1, none⟩ = some (.int .i64 ((T k).fr : Nat)) := fun u => ⟨cell_of (heap_alloc_same u _) 0 rfl, cell_of (heap_alloc_same u _) 1 rfl⟩
      have e0 := (htl wo).1
      have e1 := (htl wo).2
      clear htl
      cases hth : (T k).th
      · rw [hth] at e0
        have HT : Hid (∀ o, Keep [p, pm] w (wo.alloc o) ∧ ∃ lent, PoolAt (wo.alloc o) p pm 20 most lent tk sh ∧ ∀ z, z ∈ lent ↔ ∃ m, k + 1 ≤ m ∧ m < 32 ∧ (T m).th = true ∧ z = ((T m).fr : Int)) := Lib.hid (fun o => by
          obtain ⟨hk, l, h1, h2⟩ := HR.out
          refine ⟨hk.alloc o, l, h1.keep ((Keep.refl [] wo).alloc o) (by simp) (by simp), fun z => ?_⟩
          rw [h2]
          constructor
          · rintro ⟨m, q1, q2, q3, q4⟩
            refine ⟨m, ?_, q2, q3, q4⟩
            rcases (by omega : m = k ∨ k + 1 ≤ m) with rfl | h
            · rw [hth] at q3; cases q3
            · exact h
          · rintro ⟨m, q1, q2⟩
            exact ⟨m, by omega, q2⟩)
        clear hth hk2 e1
        go_wp2_with (refine wpList_store_new rfl 109 (.tmp 3) (.tmp 12) rfl wo _ (tabL (T k)).toArray rfl (by rfl) (by rfl) (by rw [List.size_toArray, tabL_len]; exact info_table) (by simp [tabL_len]) (tabL_one _) ?_)
        go_roundw
        case rel => exact ⟨k + 1, by go_num, by omega, Lib.hid (HT.out _)⟩
        case measure => simp [intOf]; omega
      · rw [hth] at e0
        have HTH := Lib.hid hth
        clear hth hk2
        go_wp2_with (refine wpList_store_new rfl 109 (.tmp 3) (.tmp 12) rfl wo _ (tabL (T k)).toArray rfl (by rfl) (by rfl) (by rw [List.size_toArray, tabL_len]; exact info_table) (by simp [tabL_len]) (tabL_one _) ?_)
        obtain ⟨fr, hfr⟩ : ∃ f, f = (T k).fr := ⟨_, rfl⟩
        rw [← hfr] at e1
        have HFR := Lib.hid hfr
        obtain ⟨bx, hbx⟩ : ∃ b, b = wo.heap.size := ⟨_, rfl⟩
        rw [← hbx] at e0 e1 ⊢
        have d1 : (wo.alloc (.cells (tabL (T k)).toArray 109)).cell? ⟨s, 1, none⟩ = some (.pointer (some ⟨p, 0, none⟩)) := (HR.out.1.alloc _).cell c1 (by simp; omega)
        have HB : Hid (bx = wo.heap.size) := Lib.hid hbx
        have hka : Keep [] wo (wo.alloc (.cells (tabL (T k)).toArray 109)) := (Keep.refl _ _).alloc _
        clear hbx hfr
        generalize hy : World.alloc wo _ = y at e0 e1 d1 hka ⊢
        have HY := Lib.hid hka
        clear hy hka e0
        refine wp_region_held_drew (S := fun x => x.cell? ⟨s, 1, none⟩ = some (.pointer (some ⟨p, 0, none⟩)) ∧ x.cell? ⟨bx, 1, none⟩ = some (.int .i64 fr)) (by kernel_rfl) ⟨d1, e1⟩ (fun hHeld => ?_)
        skip
        refine wpAnyH_take (i := 0) (oi := { dst := some 15, op := Op.move (Operand.tmp 0), type := 27, pos := "shadow.go:116", after := #[], guard := none }) (v := ?_) rfl (by kernel_rfl) (by kernel_rfl) (by kernel_rfl) (fun _ _ _ h => h) (Or.inl ⟨by rfl, ?_⟩) (by assumption) ?_
        rotate_left
        focus (intro w hSw; (try dsimp only at hSw); go_simp <;> with_reducible rfl)
        try simp only [Act.put, List.setIfInBounds_toArray, List.set_cons_zero, List.set_cons_succ]
        refine wpAnyH_take (i := 1) (oi := { dst := some 16, op := Op.nilCheck (Operand.tmp 15), type := 0, pos := "shadow.go:116", after := #[{ on := 0, ground := Ground.data }], guard := none }) (v := ?_) rfl (by kernel_rfl) (by kernel_rfl) (by kernel_rfl) (fun _ _ _ h => h) (Or.inl ⟨by rfl, ?_⟩) (by assumption) ?_
        rotate_left
        focus (intro w hSw; (try dsimp only at hSw); go_simp <;> with_reducible rfl)
        try simp only [Act.put, List.setIfInBounds_toArray, List.set_cons_zero, List.set_cons_succ]
        refine wpAnyH_take (i := 2) (oi := { dst := some 17, op := Op.fieldAddr 112 (Operand.tmp 16) 1, type := 0, pos := "shadow.go:116", after := #[{ on := 1, ground := Ground.data }], guard := none }) (v := ?_) rfl (by kernel_rfl) (by kernel_rfl) (by kernel_rfl) (fun _ _ _ h => h) (Or.inl ⟨by rfl, ?_⟩) (by assumption) ?_
        rotate_left
        focus (intro w hSw; (try dsimp only at hSw); go_simp <;> with_reducible rfl)
        try simp only [Act.put, List.setIfInBounds_toArray, List.set_cons_zero, List.set_cons_succ]
        refine wpAnyH_take (i := 3) (oi := { dst := some 18, op := Op.load 28 (Operand.tmp 17), type := 28, pos := "shadow.go:116", after := #[{ on := 2, ground := Ground.data }], guard := none }) (v := ?_) rfl (by kernel_rfl) (by kernel_rfl) (by kernel_rfl) (fun _ _ _ h => h) (Or.inl ⟨by rfl, ?_⟩) (by assumption) ?_
        rotate_left
        focus (intro w hSw; (try dsimp only at hSw); go_simp <;> with_reducible rfl)
        try simp only [Act.put, List.setIfInBounds_toArray, List.set_cons_zero, List.set_cons_succ]
        refine wpAnyH_take (i := 4) (oi := { dst := some 19, op := Op.fieldAddr 109 (Operand.tmp 3) 1, type := 0, pos := "shadow.go:116", after := #[], guard := none }) (v := ?_) rfl (by kernel_rfl) (by kernel_rfl) (by kernel_rfl) (fun _ _ _ h => h) (Or.inl ⟨by rfl, ?_⟩) (by assumption) ?_
        rotate_left
        focus (intro w hSw; (try dsimp only at hSw); go_simp <;> with_reducible rfl)
        try simp only [Act.put, List.setIfInBounds_toArray, List.set_cons_zero, List.set_cons_succ]
        refine wpAnyH_take (i := 5) (oi := { dst := some 20, op := Op.load 3 (Operand.tmp 19), type := 3, pos := "shadow.go:116", after := #[{ on := 4, ground := Ground.data }], guard := none }) (v := ?_) rfl (by kernel_rfl) (by kernel_rfl) (by kernel_rfl) (fun _ _ _ h => h) (Or.inl ⟨by rfl, ?_⟩) (by assumption) ?_
        rotate_left
        focus (intro w hSw; (try dsimp only at hSw); go_simp <;> with_reducible rfl)
        try simp only [Act.put, List.setIfInBounds_toArray, List.set_cons_zero, List.set_cons_succ]
        refine wpAnyH_ready (rs := [6]) (by kernel_rfl) (by simp) ?_
        refine AllReadyH.cons (o := { dst := some 21, op := Op.call { callee := Callee.value (Operand.func 81), args := #[Operand.tmp 18, Operand.tmp 20], argTypes := #[28, 3] }, type := 4, pos := "shadow.go:116", after := #[{ on := 3, ground := Ground.data }, { on := 5, ground := Ground.data }], guard := none }) rfl (fun K hK => ?_) AllReadyH.nil
        go_simp
        obtain ⟨lk, hpl, hzl⟩ := HR.out.2
        have hin : (fr : Int) ∈ lk := (hzl _).2 ⟨k, by omega, HK.out, HTH.out, by rw [HFR.out]⟩
        refine (pgive_in (hpl.keep (HY.out.trans (Keep.refl [] y).drew) (by simp) (by simp)) fr hin).mono ?_
        rintro e z ⟨rfl, hP, hkz⟩
        have hbp : bx ≠ p ∧ bx ≠ pm := by
          have h1 := lt_of_heap hpl.1
          obtain ⟨_, _, h2, _⟩ := hpl.2
          have h2 := lt_of_heap h2
          have := HB.out
          omega
        have x1 := hkz.cell hHeld.1 (by simp; omega)
        have x2 := hkz.cell hHeld.2 (by simp; omega)
        have HT : Hid (Keep [p, pm] w z ∧ ∃ lent, PoolAt z p pm 20 most lent tk sh ∧ ∀ z, z ∈ lent ↔ ∃ m, k + 1 ≤ m ∧ m < 32 ∧ (T m).th = true ∧ z = ((T m).fr : Int)) := Lib.hid (by
          refine ⟨HR.out.1.trans (((HY.out.trans (Keep.refl [] y).drew).weaken (by simp)).trans hkz), _, hP, fun z => ?_⟩
          rw [List.mem_filter, hzl]
          constructor
          · rintro ⟨⟨m, q1, q2, q3, q4⟩, q5⟩
            refine ⟨m, ?_, q2, q3, q4⟩
            rcases (by omega : m = k ∨ k + 1 ≤ m) with rfl | h
            · exfalso
              rw [HFR.out, ← q4] at q5
              simp at q5
            · exact h
          · rintro ⟨m, q1, q2, q3, q4⟩
            refine ⟨⟨m, by omega, q2, q3, q4⟩, ?_⟩
            have : z ≠ (fr : Int) := by
              intro hh
              have := HS.out.inv.inj m k q2 HK.out q3 HTH.out (by have := HFR.out; omega)
              omega
            simpa using this)
        clear hpl hzl hin hP hkz hbp
        go_wp2_with fail
        refine shut_grow (fun x => x = z) hK (fun _ h => by rw [h]; exact ⟨x1, x2⟩) rfl (fun hHeld => ?_)
        clear hK K
        refine wpAnyH_done (by kernel_rfl) ?_ _
        clear hHeld
        go_wp2_with fail
        go_roundw
        case rel => exact ⟨k + 1, by go_num, by omega, HT⟩
        case measure => simp [intOf]; omega
    · have hi : ¬ ((k : Int) < 32) := by omega
      have HB : Hid (ShAt wo s r p 8 T ∧ RamAt wo r fb g (List.range 40) L ∧ Keep [p, pm] w wo ∧ ∃ lent, PoolAt wo p pm 20 most lent tk sh ∧ ∀ z, z ∉ lent) := Lib.hid (by
        obtain ⟨hk, l, h1, h2⟩ := HR.out
        refine ⟨HS.out.sh.keep hk (by simp; omega), HS.out.ram.keep hk (by simp; omega) (by simp; omega) (by simp; omega), hk, l, h1, fun z hz => ?_⟩
        obtain ⟨m, q1, q2, _⟩ := (h2 z).1 hz
        omega)
      have CB := Lib.hid (sbegin_at (dir := 8) HB.out.1 HB.out.2.1 HS.out.inv.len (by omega) (by omega) ⟨by omega, by omega, by omega⟩)
      clear HR hk1 hk2
      go_wp2_with fail
      refine CB.out.mono ?_
      rintro e z ⟨⟨v, rfl⟩, h1, h2, h3⟩
      have HF : Hid (Keep [s, g, p, pm] w z ∧ ∃ L', SAt z s r fb g p pm most (fun _ => tab0) L' c) := Lib.hid (by
        obtain ⟨l, q1, q2⟩ := HB.out.2.2.2
        refine ⟨(HB.out.2.2.1.weaken (by simp)).trans (h3.weaken (by simp)), _, h1, h2, HS.out.inv.clear, ⟨l, tk, sh, q1.keep h3 (by simp; omega) (by simp; omega), HP.out.2.1, fun z => ⟨fun h => absurd h (q2 z), ?_⟩⟩, HS.out.ne⟩
        rintro ⟨m, _, h, _⟩; cases h)
      clear h1 h2 h3
      go_wp2_with fail
      go_end0
      exact ⟨⟨_, rfl⟩, HF⟩
end Go.Proofs.Ytpinoejckagjbaa
