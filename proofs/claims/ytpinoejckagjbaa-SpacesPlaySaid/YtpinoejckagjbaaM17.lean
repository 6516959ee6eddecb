/- Contracts of the functions that the law reaches, walked, and the plain laws on them (several texts in one). -/
import Derived.Outline
import Derived.RangeFuncBox
import Derived.Maps.AppendAt
import Derived.Test.YtpinoejckagjbaaM16
import Derived.Test.YtpinoejckagjbaaM12
import Derived.Test.YtpinoejckagjbaaM01

/- All tables are cleared: for any memory, pool and upper half. -/
namespace Go.Proofs.Ytpinoejckagjbaa
open Go.RowKit Go.Mum
set_option linter.unusedVariables false
set_option linter.unusedSimpArgs false
set_option maxRecDepth 100000

theorem UpR.less {x : World} {ua : Option Addr} {us nb nb' : List Nat} (h : UpR x ua us nb) (hs : ∀ z ∈ nb', z ∈ nb) : UpR x ua us nb' := by
  refine ⟨h.le, h.lt, ?_⟩
  rcases h.row with h | ⟨b, o, h1, h2, h3⟩
  · exact .inl h
  · exact .inr ⟨b, o, h1, fun q => h2 (hs _ q), h3⟩

set_option maxHeartbeats 4000000 in
theorem uclear_at {w : World} {s r fb g p pm nf dir P0 most uc : Nat} {ua : Option Addr} {us : List Nat} {T : Nat → Tab} {L lent0 : List Int} {c : Nat} (h : URaw w s r fb g p pm nf dir P0 most (.slice ua us.length uc) T L lent0 c) (hU : UpR w ua us [s, g, p, pm]) (hin : ∀ m, m < 32 → (T m).th = true → ((T m).fr : Int) ∈ lent0) (hinj : ∀ m k, m < 32 → k < 32 → (T m).th = true → (T k).th = true → (T m).fr = (T k).fr → m = k) :
    Calls Try.prog 54 #[.pointer (some ⟨s, 0, none⟩)] w (fun e w' => (∃ v, e = .returned v) ∧ Hid (Keep [s, g, p, pm] w w' ∧ ∃ lent', URaw w' s r fb g p pm nf dir P0 most (.slice ua us.length uc) (fun _ => tab0) (layUp (splice L (64 * dir) (List.replicate 128 0)) (64 * dir + 64) us) lent' c ∧ ∀ z, z ∈ lent' ↔ z ∈ lent0 ∧ ¬ ∃ m, m < 32 ∧ (T m).th = true ∧ z = ((T m).fr : Int))) := by
  have HS := Lib.hid h
  obtain ⟨c0, c1, c2, c3⟩ := h.sh.heads
  have C0 := Lib.hid (snone_at c0)
  have hr := h.sh.range
  obtain ⟨tk, sh, hp, hb⟩ := h.pool
  have HP := Lib.hid (And.intro hp hb)
  have HU := Lib.hid hU
  have HIN := Lib.hid (And.intro hin hinj)
  have hne := h.ne
  clear h hp hb hU hin hinj
  go_enter Try.func54, Try.ntmps54
  go_wp2_with fail
  refine C0.out.mono ?_
  rintro e w' ⟨rfl, rfl⟩
  go_wp2_with (refine wpList_load_mid rfl 110 (.tmp 8) rfl s 3 (by rfl) (tabsL T) _ hr Try.underlying110 rfl (info_tabs' T) ?_)
  clear hr
  go_loopw [10] (fun kv wr => ∃ k : Nat, kv = .int .i64 k ∧ k ≤ 32 ∧ Hid (Keep [p, pm] w wr ∧ ∃ lent, PoolAt wr p pm P0 most lent tk sh ∧ ∀ z, z ∈ lent ↔ z ∈ lent0 ∧ ¬ ∃ m, m < k ∧ m < 32 ∧ (T m).th = true ∧ z = ((T m).fr : Int))) (fun kv _ => 32 - (intOf kv).toNat)
  case atStart => exact ⟨0, rfl, by omega, Lib.hid ⟨Keep.refl _ _, lent0, HP.out.1, fun z => ⟨fun h => ⟨h, fun ⟨m, q, _⟩ => by omega⟩, fun h => h.1⟩⟩⟩
  case round =>
    obtain ⟨k, rfl, hk1, HR⟩ := hrel
    rename World => wo
    by_cases hk2 : k < 32
    · have hi : (k : Int) < 32 := by omega
      have hidx := index_tabs T hk2
      have HK := Lib.hid hk2
      have htl : ∀ u : World, (u.alloc (.cells (tabL (T k)).toArray 109)).cell? ⟨u.heap.size, 0, none⟩ = some (.bool (T k).th) ∧ (u.alloc (.cells (tabL (T k)).toArray 109)).cell? ⟨u.heap.size, 1, none⟩ = some (.int .i64 ((T k).fr : Nat)) := fun u => ⟨cell_of (heap_alloc_same u _) 0 rfl, cell_of (heap_alloc_same u _) 1 rfl⟩
      have e0 := (htl wo).1
      have e1 := (htl wo).2
      clear htl
      cases hth : (T k).th
      · rw [hth] at e0
        have HT : Hid (∀ o, Keep [p, pm] w (wo.alloc o) ∧ ∃ lent, PoolAt (wo.alloc o) p pm P0 most lent tk sh ∧ ∀ z, z ∈ lent ↔ z ∈ lent0 ∧ ¬ ∃ m, m < k + 1 ∧ m < 32 ∧ (T m).th = true ∧ z = ((T m).fr : Int)) := Lib.hid (fun o => by
          obtain ⟨hk, l, h1, h2⟩ := HR.out
          refine ⟨hk.alloc o, l, h1.keep ((Keep.refl [] wo).alloc o) (by simp) (by simp), fun z => ?_⟩
          rw [h2]
          refine and_congr_right (fun _ => not_congr ⟨?_, ?_⟩)
          · rintro ⟨m, q1, q2⟩
            exact ⟨m, by omega, q2⟩
          · rintro ⟨m, q1, q2, q3, q4⟩
            refine ⟨m, ?_, q2, q3, q4⟩
            rcases (by omega : m = k ∨ m < k) with rfl | h
            · rw [hth] at q3; cases q3
            · exact h)
        clear hth hk2 e1
        go_wp2_with (refine wpList_store_new rfl 109 (.tmp 3) (.tmp 12) rfl wo _ (tabL (T k)).toArray rfl (by rfl) (by rfl) (by rw [List.size_toArray, tabL_len]; exact info_table) (by simp [tabL_len]) (tabL_one _) ?_)
        go_roundw
        case rel => exact ⟨k + 1, by go_num, by omega, Lib.hid (HT.out _)⟩
        case measure => simp [intOf]; omega
      · rw [hth] at e0
        have HTH := Lib.hid hth
        clear hth hk2
        go_wp2_with (refine wpList_store_new rfl 109 (.tmp 3) (.tmp 12) rfl wo _ (tabL (T k)).toArray rfl (by rfl) (by rfl) (by rw [List.size_toArray, tabL_len]; exact info_table) (by simp [tabL_len]) (tabL_one _) ?_)
        obtain ⟨fr, hfr⟩ : ∃ f, f = (T k).fr := ⟨_, rfl⟩
        rw [← hfr] at e1
        have HFR := Lib.hid hfr
        obtain ⟨bx, hbx⟩ : ∃ b, b = wo.heap.size := ⟨_, rfl⟩
        rw [← hbx] at e0 e1 ⊢
        have d1 : (wo.alloc (.cells (tabL (T k)).toArray 109)).cell? ⟨s, 1, none⟩ = some (.pointer (some ⟨p, 0, none⟩)) := (HR.out.1.alloc _).cell c1 (by simp; omega)
        have HB : Hid (bx = wo.heap.size) := Lib.hid hbx
        have hka : Keep [] wo (wo.alloc (.cells (tabL (T k)).toArray 109)) := (Keep.refl _ _).alloc _
        clear hbx hfr
        generalize hy : World.alloc wo _ = y at e0 e1 d1 hka ⊢
        have HY := Lib.hid hka
        clear hy hka e0
        refine wp_region_held_drew (S := fun x => x.cell? ⟨s, 1, none⟩ = some (.pointer (some ⟨p, 0, none⟩)) ∧ x.cell? ⟨bx, 1, none⟩ = some (.int .i64 fr)) (by kernel_rfl) ⟨d1, e1⟩ (fun hHeld => ?_)
        skip
        refine wpAnyH_take (i := 0) (oi := { dst := some 15, op := Op.move (Operand.tmp 0), type := 27, pos := "shadow.go:116", after := #[], guard := none }) (v := ?_) rfl (by kernel_rfl) (by kernel_rfl) (by kernel_rfl) (fun _ _ _ h => h) (Or.inl ⟨by rfl, ?_⟩) (by assumption) ?_
        rotate_left
        focus (intro w hSw; (try dsimp only at hSw); go_simp <;> with_reducible rfl)
        try simp only [Act.put, List.setIfInBounds_toArray, List.set_cons_zero, List.set_cons_succ]
        refine wpAnyH_take (i := 1) (oi := { dst := some 16, op := Op.nilCheck (Operand.tmp 15), type := 0, pos := "shadow.go:116", after := #[{ on := 0, ground := Ground.data }], guard := none }) (v := ?_) rfl (by kernel_rfl) (by kernel_rfl) (by kernel_rfl) (fun _ _ _ h => h) (Or.inl ⟨by rfl, ?_⟩) (by assumption) ?_
        rotate_left
        focus (intro w hSw; (try dsimp only at hSw); go_simp <;> with_reducible rfl)
        try simp only [Act.put, List.setIfInBounds_toArray, List.set_cons_zero, List.set_cons_succ]
        refine wpAnyH_take (i := 2) (oi := { dst := some 17, op := Op.fieldAddr 112 (Operand.tmp 16) 1, type := 0, pos := "shadow.go:116", after := #[{ on := 1, ground := Ground.data }], guard := none }) (v := ?_) rfl (by kernel_rfl) (by kernel_rfl) (by kernel_rfl) (fun _ _ _ h => h) (Or.inl ⟨by rfl, ?_⟩) (by assumption) ?_
        rotate_left
        focus (intro w hSw; (try dsimp only at hSw); go_simp <;> with_reducible rfl)
        try simp only [Act.put, List.setIfInBounds_toArray, List.set_cons_zero, List.set_cons_succ]
        refine wpAnyH_take (i := 3) (oi := { dst := some 18, op := Op.load 28 (Operand.tmp 17), type := 28, pos := "shadow.go:116", after := #[{ on := 2, ground := Ground.data }], guard := none }) (v := ?_) rfl (by kernel_rfl) (by kernel_rfl) (by kernel_rfl) (fun _ _ _ h => h) (Or.inl ⟨by rfl, ?_⟩) (by assumption) ?_
        rotate_left
        focus (intro w hSw; (try dsimp only at hSw); go_simp <;> with_reducible rfl)
        try simp only [Act.put, List.setIfInBounds_toArray, List.set_cons_zero, List.set_cons_succ]
        refine wpAnyH_take (i := 4) (oi := { dst := some 19, op := Op.fieldAddr 109 (Operand.tmp 3) 1, type := 0, pos := "shadow.go:116", after := #[], guard := none }) (v := ?_) rfl (by kernel_rfl) (by kernel_rfl) (by kernel_rfl) (fun _ _ _ h => h) (Or.inl ⟨by rfl, ?_⟩) (by assumption) ?_
        rotate_left
        focus (intro w hSw; (try dsimp only at hSw); go_simp <;> with_reducible rfl)
        try simp only [Act.put, List.setIfInBounds_toArray, List.set_cons_zero, List.set_cons_succ]
        refine wpAnyH_take (i := 5) (oi := { dst := some 20, op := Op.load 3 (Operand.tmp 19), type := 3, pos := "shadow.go:116", after := #[{ on := 4, ground := Ground.data }], guard := none }) (v := ?_) rfl (by kernel_rfl) (by kernel_rfl) (by kernel_rfl) (fun _ _ _ h => h) (Or.inl ⟨by rfl, ?_⟩) (by assumption) ?_
        rotate_left
        focus (intro w hSw; (try dsimp only at hSw); go_simp <;> with_reducible rfl)
        try simp only [Act.put, List.setIfInBounds_toArray, List.set_cons_zero, List.set_cons_succ]
        refine wpAnyH_ready (rs := [6]) (by kernel_rfl) (by simp) ?_
        refine AllReadyH.cons (o := { dst := some 21, op := Op.call { callee := Callee.value (Operand.func 81), args := #[Operand.tmp 18, Operand.tmp 20], argTypes := #[28, 3] }, type := 4, pos := "shadow.go:116", after := #[{ on := 3, ground := Ground.data }, { on := 5, ground := Ground.data }], guard := none }) rfl (fun K hK => ?_) AllReadyH.nil
        go_simp
        obtain ⟨lk, hpl, hzl⟩ := HR.out.2
        have hin : (fr : Int) ∈ lk := (hzl _).2 ⟨by rw [HFR.out]; exact HIN.out.1 k HK.out HTH.out, fun ⟨m, q1, q2, q3, q4⟩ => by
          have := HIN.out.2 m k q2 HK.out q3 HTH.out (by have := HFR.out; omega)
          omega⟩
        refine (pgive_in (hpl.keep (HY.out.trans (Keep.refl [] y).drew) (by simp) (by simp)) fr hin).mono ?_
        rintro e z ⟨rfl, hP, hkz⟩
        have hbp : bx ≠ p ∧ bx ≠ pm := by
          have h1 := lt_of_heap hpl.1
          obtain ⟨_, _, h2, _⟩ := hpl.2
          have h2 := lt_of_heap h2
          have := HB.out
          omega
        have x1 := hkz.cell hHeld.1 (by simp; omega)
        have x2 := hkz.cell hHeld.2 (by simp; omega)
        have HT : Hid (Keep [p, pm] w z ∧ ∃ lent, PoolAt z p pm P0 most lent tk sh ∧ ∀ z, z ∈ lent ↔ z ∈ lent0 ∧ ¬ ∃ m, m < k + 1 ∧ m < 32 ∧ (T m).th = true ∧ z = ((T m).fr : Int)) := Lib.hid (by
          refine ⟨HR.out.1.trans (((HY.out.trans (Keep.refl [] y).drew).weaken (by simp)).trans hkz), _, hP, fun z => ?_⟩
          rw [List.mem_filter, hzl]
          constructor
          · rintro ⟨⟨q0, q1⟩, q5⟩
            refine ⟨q0, ?_⟩
            rintro ⟨m, r1, r2, r3, r4⟩
            rcases (by omega : m = k ∨ m < k) with rfl | h
            · rw [HFR.out, ← r4] at q5
              simp at q5
            · exact q1 ⟨m, h, r2, r3, r4⟩
          · rintro ⟨q0, q1⟩
            refine ⟨⟨q0, fun ⟨m, r1, r2⟩ => q1 ⟨m, by omega, r2⟩⟩, ?_⟩
            have : z ≠ (fr : Int) := by
              intro hh
              exact q1 ⟨k, by omega, HK.out, HTH.out, by rw [hh, HFR.out]⟩
            simpa using this)
        clear hpl hzl hin hP hkz hbp
        go_wp2_with fail
        refine shut_grow (fun x => x = z) hK (fun _ h => by rw [h]; exact ⟨x1, x2⟩) rfl (fun hHeld => ?_)
        clear hK K
        refine wpAnyH_done (by kernel_rfl) ?_ _
        clear hHeld
        go_wp2_with fail
        go_roundw
        case rel => exact ⟨k + 1, by go_num, by omega, HT⟩
        case measure => simp [intOf]; omega
    · have hi : ¬ ((k : Int) < 32) := by omega
      have HB : Hid (ShU wo s r p dir (.slice ua us.length uc) T ∧ RamAt wo r fb g (List.range nf) L ∧ Keep [p, pm] w wo ∧ UpR wo ua us [s, g] ∧ ∃ lent, PoolAt wo p pm P0 most lent tk sh ∧ ∀ z, z ∈ lent ↔ z ∈ lent0 ∧ ¬ ∃ m, m < 32 ∧ m < 32 ∧ (T m).th = true ∧ z = ((T m).fr : Int)) := Lib.hid (by
        obtain rfl : k = 32 := by omega
        obtain ⟨hk, l, h1, h2⟩ := HR.out
        exact ⟨HS.out.sh.keep hk (by simp; omega), HS.out.ram.keep hk (by simp; omega) (by simp; omega) (by simp; omega), hk, (HU.out.keep hk (by simp)).less (by simp), l, h1, h2⟩)
      have CB := Lib.hid (ubegin_at HB.out.1 HB.out.2.2.2.1 HB.out.2.1 HS.out.len HS.out.nfb HS.out.hd ⟨by omega, by omega, by omega⟩)
      clear HR hk1 hk2
      go_wp2_with fail
      refine CB.out.mono ?_
      rintro e z ⟨⟨v, rfl⟩, h1, h2, h3⟩
      have HF : Hid (Keep [s, g, p, pm] w z ∧ ∃ lent', URaw z s r fb g p pm nf dir P0 most (.slice ua us.length uc) (fun _ => tab0) (layUp (splice L (64 * dir) (List.replicate 128 0)) (64 * dir + 64) us) lent' c ∧ ∀ z, z ∈ lent' ↔ z ∈ lent0 ∧ ¬ ∃ m, m < 32 ∧ (T m).th = true ∧ z = ((T m).fr : Int)) := Lib.hid (by
        obtain ⟨l, q1, q2⟩ := HB.out.2.2.2.2
        have hle := HU.out.le
        have hd := HS.out.hd
        have hsl : (splice L (64 * dir) (List.replicate 128 (0 : Int))).length = 64 * nf := by rw [length_splice' _ _ _ (by rw [HS.out.len]; simp; omega), HS.out.len]
        refine ⟨(HB.out.2.2.1.weaken (by simp)).trans (h3.weaken (by simp)), l, ⟨h1, h2, by rw [layUp_len _ (by rw [hsl]; omega), hsl], ⟨tk, sh, q1.keep h3 (by simp; omega) (by simp; omega), HP.out.2⟩, HS.out.nfb, hd, HS.out.hp, HS.out.ne⟩, fun z => ?_⟩
        rw [q2]
        refine and_congr_right (fun _ => not_congr ⟨fun ⟨m, _, q⟩ => ⟨m, q⟩, fun ⟨m, q⟩ => ⟨m, q.1, q⟩⟩))
      clear h1 h2 h3
      go_wp2_with fail
      go_end0
      exact ⟨⟨_, rfl⟩, HF⟩
end Go.Proofs.Ytpinoejckagjbaa

/- The document's shadow: its lists in memory; a table sought; a page dropped. -/
namespace Go.Proofs.Ytpinoejckagjbaa
open Go.RowKit Go.Mum
set_option linter.unusedVariables false
set_option linter.unusedSimpArgs false
set_option maxRecDepth 100000

abbrev Pg := Nat × Nat × Nat

def pgC (q : Pg) : List Value := [.int .u32 (q.1 : Nat), .int .i64 (q.2.1 : Nat), .int .u32 (q.2.2 : Nat)]
def pgL (ps : List Pg) : List Value := ps.flatMap pgC

theorem pgL_len (ps : List Pg) : (pgL ps).length = ps.length * 3 := by
  induction ps with
  | nil => rfl
  | cons q ps ih =>
    show (pgC q ++ pgL ps).length = _
    rw [List.length_append, ih]
    simp [pgC]; omega

theorem pgL_get : ∀ (ps : List Pg) (i : Nat) (hi : i < ps.length) (j : Nat), j < 3 → (pgL ps)[i * 3 + j]? = (pgC ps[i])[j]?
  | q :: ps, 0, _, j, hj => by
    show (pgC q ++ pgL ps)[0 * 3 + j]? = _
    rw [List.getElem?_append_left (by simp [pgC]; omega)]
    simp
  | q :: ps, i + 1, hi, j, hj => by
    show (pgC q ++ pgL ps)[(i + 1) * 3 + j]? = _
    rw [List.getElem?_append_right (by simp [pgC]; omega), show (i + 1) * 3 + j - (pgC q).length = i * 3 + j by simp [pgC]; omega]
    exact pgL_get ps i (by simpa using hi) j hj

/-- The document's shadow. -/
structure RS (x : World) (wb : Nat) (most : Nat) (ps : List Pg) (ts : List Nat) (pv tv : Value) : Prop where
  blk : x.heap[wb]? = some (.cells #[.int .i64 40, pv, tv, .int .i64 most] 46 (0, 0))
  prow : x.ownsRow (wb + 1) 65 3 pv ps.length (pgL ps)
  trow : x.ownsRow (wb + 1) 22 1 tv ts.length (ts.map fun z => .int .u32 (z : Nat))

theorem own_keep {w x : World} {base : Nat} {e : TypeId} {size : Nat} {v : Value} {n : Nat} {xs : List Value} (h : w.ownsRow base e size v n xs) {l : List Nat} (hk : Keep l w x) (hn : ∀ g, v.ownBlock = some g → g ∉ l) : x.ownsRow base e size v n xs := by
  obtain ⟨h1, h2⟩ := h
  refine ⟨h1, h2.imp id ?_⟩
  rintro ⟨g, cap, cur, rfl, a, b, c⟩
  exact ⟨g, cap, cur, rfl, a, hk.heap b (hn g rfl), c⟩

theorem own_block {w : World} {base : Nat} {e : TypeId} {size : Nat} {v : Value} {n : Nat} {xs : List Value} (h : w.ownsRow base e size v n xs) {g : Nat} (hg : v.ownBlock = some g) : base ≤ g ∧ g < w.heap.size := h.lt g hg

theorem own_base {w : World} {base base' : Nat} {e : TypeId} {size : Nat} {v : Value} {n : Nat} {xs : List Value} (h : w.ownsRow base e size v n xs) (hb : base' ≤ base) : w.ownsRow base' e size v n xs := by
  obtain ⟨h1, h2⟩ := h
  refine ⟨h1, h2.imp id ?_⟩
  rintro ⟨g, cap, cur, rfl, a, b, c⟩
  exact ⟨g, cap, cur, rfl, by omega, b, c⟩

theorem own_form {w : World} {base : Nat} {e : TypeId} {size : Nat} {v : Value} {n : Nat} {xs : List Value} (h : w.ownsRow base e size v n xs) : ∃ a cap, v = .slice a n cap := by
  rcases h.2 with ⟨rfl, rfl⟩ | ⟨g, cap, cur, rfl, _⟩
  · exact ⟨_, _, rfl⟩
  · exact ⟨_, _, rfl⟩

theorem own_some {w : World} {base : Nat} {e : TypeId} {size : Nat} {a : Option Addr} {cap n : Nat} {xs : List Value} (h : w.ownsRow base e size (.slice a n cap) n xs) (hn : 0 < n) : ∃ g, a = some ⟨g, 0, none⟩ ∧ ∀ j, j < n * size → w.cell? ⟨g, j, none⟩ = xs[j]? := by
  rcases h.2 with ⟨_, h0⟩ | ⟨g, cap', cur, h1, _⟩
  · omega
  · cases h1
    exact ⟨g, rfl, fun j hj => h.cellAt j hj⟩

theorem RS.keep {x y : World} {wb most : Nat} {ps : List Pg} {ts : List Nat} {pv tv : Value} (h : RS x wb most ps ts pv tv) {l : List Nat} (hk : Keep l x y) (hl : ∀ k ∈ l, k < wb) : RS y wb most ps ts pv tv :=
  ⟨hk.heap h.blk (fun q => by have := hl _ q; omega), own_keep h.prow hk (fun g hg q => by have := own_block h.prow hg; have := hl _ q; omega), own_keep h.trow hk (fun g hg q => by have := own_block h.trow hg; have := hl _ q; omega)⟩

theorem RS.cells {x : World} {wb most : Nat} {ps : List Pg} {ts : List Nat} {pv tv : Value} (h : RS x wb most ps ts pv tv) :
    x.cell? ⟨wb, 0, none⟩ = some (.int .i64 40) ∧ x.cell? ⟨wb, 1, none⟩ = some pv ∧ x.cell? ⟨wb, 2, none⟩ = some tv ∧ x.cell? ⟨wb, 3, none⟩ = some (.int .i64 most) :=
  ⟨cell_of h.blk 0 rfl, cell_of h.blk 1 rfl, cell_of h.blk 2 rfl, cell_of h.blk 3 rfl⟩

set_option maxHeartbeats 1000000 in
theorem rshas_at {x : World} {wb most : Nat} {ps : List Pg} {ts : List Nat} {pv tv : Value} (h : RS x wb most ps ts pv tv) (hl : ts.length ≤ 1000) (n : Nat) :
    Calls Try.prog 83 #[.pointer (some ⟨wb, 0, none⟩), .int .u32 n] x fun e y => e = .returned (.bool (decide (n ∈ ts))) ∧ x = y := by
  obtain ⟨c0, c1, c2, c3⟩ := h.cells
  obtain ⟨ta, tc, rfl⟩ := own_form h.trow
  have HT := Lib.hid h.trow
  clear h
  go_enter Try.func83, Try.ntmps83
  go_wp2_with fail
  go_loopw [5] (fun kv wr => ∃ k : Nat, kv = .int .i64 k ∧ k ≤ ts.length ∧ x = wr ∧ Hid (∀ j (hj : j < ts.length), j < k → ts[j] ≠ n)) (fun kv _ => ts.length - (intOf kv).toNat)
  case atStart => exact ⟨0, rfl, by omega, rfl, Lib.hid (fun j hj h => by omega)⟩
  case round =>
    obtain ⟨k, rfl, hk1, rfl, HJ⟩ := hrel
    by_cases hkl : k < ts.length
    · obtain ⟨g, rfl, hg⟩ := own_some HT.out (by omega)
      have hgk := hg k (by omega)
      rw [List.getElem?_map, List.getElem?_eq_getElem hkl] at hgk
      replace hgk : x.cell? ⟨g, k, none⟩ = some (.int .u32 (ts[k] : Nat)) := hgk
      have hk0 : (0 : Int) ≤ (k : Int) := by omega
      have hk3 : (k : Int) < (ts.length : Int) := by omega
      obtain ⟨tk, htk⟩ : ∃ z, z = ts[k] := ⟨_, rfl⟩
      rw [← htk] at hgk
      clear hg
      by_cases he : tk = n
      · have HF : Hid (decide (n ∈ ts) = true) := Lib.hid (decide_eq_true (by rw [← he, htk]; exact List.getElem_mem hkl))
        subst he
        clear htk
        go_wp2_with fail
        go_ret
        exact ⟨by rw [HF.out]; rfl, rfl⟩
      · have HJ2 : Hid (∀ j (hj : j < ts.length), j < k + 1 → ts[j] ≠ n) := Lib.hid (fun j hj h => by
          rcases (by omega : j < k ∨ j = k) with h | rfl
          · exact HJ.out j hj h
          · rw [← htk]; exact he)
        have he' : ((tk : Int) == (n : Int)) = false := by rw [beq_eq_false_iff_ne]; omega
        have he2 : (tk == n) = false := by rw [beq_eq_false_iff_ne]; exact he
        have he3 : decide (tk = n) = false := decide_eq_false he
        clear htk
        go_wp2_with fail
        go_roundw
        case rel => exact ⟨k + 1, by go_num, by omega, trivial, HJ2⟩
        case measure => simp [intOf]; omega
    · have HF : Hid (decide (n ∈ ts) = false) := Lib.hid (decide_eq_false (fun h => by
        obtain ⟨j, hj, e⟩ := List.getElem_of_mem h
        exact HJ.out j hj (by omega) e))
      have hk3 : ¬ ((k : Int) < (ts.length : Int)) := by omega
      clear HJ hk1
      go_wp2_with fail
      go_ret
      exact ⟨by rw [HF.out]; rfl, rfl⟩

theorem cells_three_new (w : World) (a b c : Value) (t : TypeId) : ∀ j u, [a, b, c][j]? = some u → (w.alloc (.cells #[a, b, c] t)).cell? ((⟨w.heap.size, 0, none⟩ : Addr).add j) = some u := by
  intro j u hj
  have hadd : (⟨w.heap.size, 0, none⟩ : Addr).add j = ⟨w.heap.size, j, none⟩ := by unfold Addr.add; split <;> simp_all
  rw [hadd]
  exact cell_of (heap_alloc_same w _) j (by simpa using hj)

theorem info_page : (Try.prog.info? 65).map (fun i => (i.zero, i.size, i.bytes)) = some (some (.agg #[.int .u32 0, .int .i64 0, .int .u32 0]), 3, 24) := by kernel_rfl

/-- What the document's drop leaves: the pages but one. -/
def RDrop (wb most : Nat) (ps : List Pg) (ts : List Nat) (tv : Value) (pg : Nat) (x y : World) : Prop :=
  ∃ pv', RS y wb most (ps.filter (fun q => decide (q.1 ≠ pg))) ts pv' tv ∧ Keep [wb] x y

set_option maxHeartbeats 2000000 in
theorem rsdrop_at {x : World} {wb most : Nat} {ps : List Pg} {ts : List Nat} {pv tv : Value} (h : RS x wb most ps ts pv tv) (hl : ps.length ≤ 1000) (va : Nat) (hv : va < 4294967296) :
    Calls Try.prog 53 #[.pointer (some ⟨wb, 0, none⟩), .int .u32 va] x fun e y => (∃ v, e = .returned v) ∧ RDrop wb most ps ts tv (va - va % 64) x y := by
  obtain ⟨c0, c1, c2, c3⟩ := h.cells
  have HR := Lib.hid h
  obtain ⟨i0, hi, hz0, hz1, hz2⟩ := info_parts info_page
  obtain ⟨pa, pc, hpv⟩ := own_form h.prow
  have HP := Lib.hid h.prow
  subst hpv
  obtain ⟨m, hm⟩ : ∃ m, m = va % 64 := ⟨_, rfl⟩
  obtain ⟨pg, hpg⟩ : ∃ p, p = va - va % 64 := ⟨_, rfl⟩
  have t1 : ((va : Int)).tmod 64 = (m : Int) := by rw [Int.tmod_eq_emod_of_nonneg (by omega)]; omega
  have u1 : (va : Int) % 64 = (m : Int) := by omega
  have u2 : IntKind.u32.wrap ((va : Int) - (m : Int)) = (pg : Int) := by rw [IntWalk.u32_in _ (by omega)]; omega
  rw [← hpg]
  clear h hm hpg
  go_enter Try.func53, Try.ntmps53
  go_wp2_with fail
  go_loopw [4, 5] (fun lv0 kv wr => ∃ (k : Nat) (L : List Pg) (lv : Value), lv = lv0 ∧ kv = .int .i64 k ∧ k ≤ ps.length ∧ L.length ≤ k ∧ Hid (L = (ps.take k).filter (fun q => decide (q.1 ≠ pg)) ∧ wr.ownsRow x.heap.size 65 3 lv L.length (pgL L) ∧ Keep [] x wr)) (fun _ kv _ => ps.length - (intOf kv).toNat)
  case atStart => exact ⟨0, [], _, rfl, rfl, by omega, by simp, Lib.hid ⟨by simp, World.ownsRow_nil _ _ _ _, Keep.refl _ _⟩⟩
  case round =>
    obtain ⟨k, L, lv, rfl, rfl, hk1, hL, HJ⟩ := hrel
    rename World => wo
    by_cases hkl : k < ps.length
    · obtain ⟨g, rfl, hg⟩ := own_some HP.out (by omega)
      have hq0 := hg (k * 3 + 0) (by omega)
      have hq1 := hg (k * 3 + 1) (by omega)
      have hq2 := hg (k * 3 + 2) (by omega)
      rw [pgL_get ps k hkl _ (by omega)] at hq0 hq1 hq2
      obtain ⟨q, hq⟩ : ∃ q, q = ps[k] := ⟨_, rfl⟩
      rw [← hq] at hq0 hq1 hq2
      have hk := HJ.out.2.2
      replace hq0 : wo.cell? ⟨g, k * 3, none⟩ = some (.int .u32 (q.1 : Nat)) := hk.cell hq0 (by simp)
      replace hq1 : wo.cell? ⟨g, k * 3 + 1, none⟩ = some (.int .i64 (q.2.1 : Nat)) := hk.cell hq1 (by simp)
      replace hq2 : wo.cell? ⟨g, k * 3 + 2, none⟩ = some (.int .u32 (q.2.2 : Nat)) := hk.cell hq2 (by simp)
      have e0 := hk.cell c0 (by simp)
      have e1 := hk.cell c1 (by simp)
      have hk0 : (0 : Int) ≤ (k : Int) := by omega
      have hk3 : (k : Int) < (ps.length : Int) := by omega
      have HQ := Lib.hid hq
      obtain ⟨qa, qf, qb⟩ := q
      simp only at hq0 hq1 hq2
      clear hg hq hk c0 c1 c2 c3
      have htake : ps.take (k + 1) = ps.take k ++ [(qa, qf, qb)] := by
        rw [List.take_add_one, List.getElem?_eq_getElem hkl, HQ.out]; rfl
      have HTK := Lib.hid htake
      clear htake
      by_cases he : qa = pg
      · have HJ2 : Hid (L = (ps.take (k + 1)).filter (fun q => decide (q.1 ≠ pg)) ∧ wo.ownsRow x.heap.size 65 3 lv L.length (pgL L) ∧ Keep [] x wo) := Lib.hid ⟨by
          rw [HTK.out, List.filter_append, ← HJ.out.1]
          simp [he], HJ.out.2⟩
        subst he
        go_wp2_with fail
        go_roundw
        case rel => exact ⟨k + 1, L, _, rfl, by go_num, by omega, by omega, HJ2⟩
        case measure => simp [intOf]; omega
      · have he' : ((qa : Int) == (pg : Int)) = false := by rw [beq_eq_false_iff_ne]; omega
        have he2 : (qa == pg) = false := by rw [beq_eq_false_iff_ne]; exact he
        have HE := Lib.hid he
        have hrow := HJ.out.2.1
        have hxs := HJ.out.2.2.size
        have HJ3 : Hid (∀ v' w1, w1.ownsRow x.heap.size 65 3 v' (L.length + 1) (pgL L ++ pgC (qa, qf, qb)) → (wo.alloc (.cells #[.int .u32 qa, .int .i64 qf, .int .u32 qb] 65)).grownBy w1 lv.ownBlock → Hid ((L ++ [(qa, qf, qb)]) = (ps.take (k + 1)).filter (fun q => decide (q.1 ≠ pg)) ∧ w1.ownsRow x.heap.size 65 3 v' (L ++ [(qa, qf, qb)]).length (pgL (L ++ [(qa, qf, qb)])) ∧ Keep [] x w1)) := Lib.hid (fun v' w1 ho hgr => Lib.hid ⟨by
          rw [HTK.out, List.filter_append, ← HJ.out.1]
          simp [HE.out], by
          rw [List.length_append]
          have : pgL (L ++ [(qa, qf, qb)]) = pgL L ++ pgC (qa, qf, qb) := by simp [pgL]
          rw [this]
          exact ho, by
          refine ⟨hgr.os.trans (HJ.out.2.2.os), hgr.tape.trans HJ.out.2.2.tape, hgr.output.trans HJ.out.2.2.output, Nat.le_trans HJ.out.2.2.size (Nat.le_trans (by simp) hgr.size), fun b hb _ => ?_⟩
          have h1 := hgr.block b (by have := HJ.out.2.2.size; simp; omega) (by
            intro hh
            have := own_block HJ.out.2.1 hh.symm
            omega)
          rw [h1, Below.heap_alloc _ _ _ (by have := HJ.out.2.2.size; omega)]
          exact HJ.out.2.2.block b hb (by simp)⟩)
        clear he
        go_wp2_with (at_builtin; refine wpList_append_own _ rfl _ _ 43 rfl x.heap.size 65 i0 (.agg #[.int .u32 0, .int .i64 0, .int .u32 0]) 3 24 Try.underlying43 hi hz0 hz1 hz2 rfl (by decide) _ _ _ rfl (hrow.alloc _) ⟨wo.heap.size, 0, none⟩ 1 1 (pgC (qa, qf, qb)) rfl rfl (cells_three_new _ _ _ _ _) (by simp [pgC, Value.oneCell']) (by unfold maxLen; omega) (by omega) (by simp; omega) ?_; intro v' w1 hown' hgrow _)
        go_roundw
        case rel => exact ⟨k + 1, L ++ [(qa, qf, qb)], _, rfl, by go_num, by omega, by simp; omega, HJ3.out _ _ hown' hgrow⟩
        case measure => simp [intOf]; omega
    · obtain ⟨la, lc, rfl⟩ := own_form HJ.out.2.1
      have hk3 : ¬ ((k : Int) < (ps.length : Int)) := by omega
      have hk := HJ.out.2.2
      have e1 := hk.cell c1 (by simp)
      have f1 : wo.frozen? ⟨wb, 1, none⟩ = false := frozen_of (hk.heap HR.out.blk (by simp)) 1
      have hLf : L = ps.filter (fun q => decide (q.1 ≠ pg)) := by
        have := HJ.out.1
        rw [List.take_of_length_le (by omega)] at this
        exact this
      have HF : Hid (RDrop wb most ps ts tv pg x (wo.setCell ⟨wb, 1, none⟩ (.slice la L.length lc))) := Lib.hid (by
        have hwb : wb < x.heap.size := lt_of_heap HR.out.blk
        have hks : Keep [wb] wo (wo.setCell ⟨wb, 1, none⟩ (.slice la L.length lc)) := keepSet (Keep.refl _ _) (by simp) _ _
        refine ⟨_, ⟨heap_set_same (hk.heap HR.out.blk (by simp)) 1 _, ?_, ?_⟩, (hk.weaken (by simp)).trans hks⟩
        · rw [← hLf]
          refine own_keep ?_ hks (fun g hg => ?_)
          · exact own_base HJ.out.2.1 (by omega)
          · have := own_block HJ.out.2.1 hg
            simp; omega
        · exact own_keep (own_keep HR.out.trow hk (fun _ _ => by simp)) hks (fun g hg => by have := own_block HR.out.trow hg; simp; omega))
      clear hk hLf c0 c1 c2 c3
      go_wp2_with fail
      go_end0
      exact ⟨⟨_, rfl⟩, HF.out⟩
end Go.Proofs.Ytpinoejckagjbaa
