/- Contracts of the functions that the law reaches, walked, and the plain laws on them (several texts in one). -/
import Derived.Outline
import Derived.Laws.EntriesVeiled
import Derived.Test.YtnpnedimgfbnhaaM13
import Derived.Test.YtnpnedimgfbnhaaM14

/- What is done with an access. -/
namespace Go.Proofs.Ytnpnedimgfbnhaa
open Go.RowKit Go.Mum
set_option linter.unusedVariables false
set_option maxRecDepth 100000

theorem watched_at {w : World} {mv : Value} {W : Int → Bool} (hm : Wat w mv W) (v : Value) (f : Nat → Value) (ps : Nat) (cr va kind : Int) (b a e : Nat) (d t : Nat) (p : Int) (hp : ps < 4294967296) (hb : b < 4294967296) (ha : a < 4294967296) :
    Calls Try.prog 29 #[.agg #[v, f 0, f 1, f 2, f 3, f 4, f 5, f 6, f 7, f 8, .int .u32 ps, .int .u32 cr, f 11, f 12, f 13, f 14, f 15, f 16, f 17, f 18, mv, .int .u32 va, .int .i64 kind], .agg #[.int .u32 b, .int .u32 a, .int .u32 e, .int .i64 d, .int .i64 t, .int .i64 p]] w (VerPost (overV W b a e d t p (decide (ps / 4 % 2 = 1)) kind) w) := by
  by_cases h : kind = 3 ∧ (b / 16 % 2 = 0 ∨ W p = true)
  · exact watched2_at hm v f ps cr va kind b a e d t p hp hb ha h.1 h.2
  · exact watched1_at hm v f ps cr va kind b a e d t p hp hb ha h

/-- The verdict over what was found. -/
def decV (W : Int → Bool) (ps va : Nat) (kind : Int) : Option (Nat × Nat × Nat × Nat × Nat × Nat) → Ver
  | none => failV va kind
  | some (b, a, e, d, t, p) => overV W b a e d t p (decide (ps / 4 % 2 = 1)) kind

/-- The verdict. -/
def decF (rd : Nat → Option Nat) (n : Nat) (W : Int → Bool) (cr ps va : Nat) (kind : Int) : Ver := decV W ps va kind (wayL rd n cr ps va kind)

theorem Reads.keepL {l : List Nat} {w x : World} {a : Option Addr} {L : List Int} (h : Reads w a L) (hk : Keep l w x) (hn : L = [] ∨ ∃ g, a = some ⟨g, 0, none⟩ ∧ g ∉ l) : Reads x a L := by
  rcases hn with h0 | ⟨g, h1, h2⟩
  · exact .inl h0
  · rcases h with h | ⟨g', e, h⟩
    · exact .inl h
    · rw [h1] at e
      cases e
      exact .inr ⟨g, h1, fun j hj => hk.cell (h j hj) h2⟩

theorem eight_cells {x : World} {rb : Nat} {t : TypeId} (h : x.heap[rb]? = some (.cells #[.int .i64 0, .int .i64 0, .int .u32 0, .slice none 0 0, .int .u32 0, .bool false, .int .i64 0, .int .u32 0] t (0, 0))) :
    (x.cell? ⟨rb, 0, none⟩ = some (.int .i64 0) ∧ x.cell? ⟨rb, 1, none⟩ = some (.int .i64 0) ∧ x.cell? ⟨rb, 2, none⟩ = some (.int .u32 0) ∧ x.cell? ⟨rb, 3, none⟩ = some (.slice none 0 0) ∧ x.cell? ⟨rb, 4, none⟩ = some (.int .u32 0) ∧ x.cell? ⟨rb, 5, none⟩ = some (.bool false) ∧ x.cell? ⟨rb, 6, none⟩ = some (.int .i64 0) ∧ x.cell? ⟨rb, 7, none⟩ = some (.int .u32 0)) ∧
    (x.frozen? ⟨rb, 0, none⟩ = false ∧ x.frozen? ⟨rb, 1, none⟩ = false ∧ x.frozen? ⟨rb, 2, none⟩ = false ∧ x.frozen? ⟨rb, 3, none⟩ = false ∧ x.frozen? ⟨rb, 4, none⟩ = false ∧ x.frozen? ⟨rb, 5, none⟩ = false ∧ x.frozen? ⟨rb, 6, none⟩ = false ∧ x.frozen? ⟨rb, 7, none⟩ = false) :=
  ⟨⟨cell_of h 0 rfl, cell_of h 1 rfl, cell_of h 2 rfl, cell_of h 3 rfl, cell_of h 4 rfl, cell_of h 5 rfl, cell_of h 6 rfl, cell_of h 7 rfl⟩, frozen_of h 0, frozen_of h 1, frozen_of h 2, frozen_of h 3, frozen_of h 4, frozen_of h 5, frozen_of h 6, frozen_of h 7⟩

/-- The verdict is handed on out of the result's own cells. -/
theorem verPost_on {V : Ver} {w z w2 w3 : World} {a : Option Addr} {cap b : Nat} (hR : Reads w2 a V.tables) (hk : Keep [] w w2) (hg : V.tables = [] ∨ ∃ g, a = some ⟨g, 0, none⟩ ∧ z.heap.size ≤ g) (h3 : Keep [b] w2 w3) (hb : w.heap.size ≤ b) (hz : b < z.heap.size) (hwz : w.heap.size ≤ z.heap.size) :
    VerPost V w (.returned (verV V (.slice a V.tables.length cap))) w3 := by
  refine ⟨a, cap, rfl, hR.keepL h3 ?_, hk.then h3 (by simp; omega), ?_⟩
  · rcases hg with h | ⟨g, h1, h2⟩
    · exact .inl h
    · exact .inr ⟨g, h1, by simp; omega⟩
  · rcases hg with h | ⟨g, h1, h2⟩
    · exact .inl h
    · exact .inr ⟨g, h1, by omega⟩

theorem info_state : (Try.prog.info? 43).map (·.size) = some 19 := by kernel_rfl

theorem refBits_lt32 (x y : Nat) : refBits x y < 4294967296 := Nat.lt_trans (refBits_lt x y) (by decide)

theorem wayL_lt {rd : Nat → Option Nat} {n cr ps va : Nat} {kind : Int} (hlt : ∀ a z, rd a = some z → z < 4294967296) (hv : va < 4294967296) : ∀ b a e d t p, wayL rd n cr ps va kind = some (b, a, e, d, t, p) → b < 4294967296 ∧ a < 4294967296 := by
  intro b a e d t p h
  unfold wayL at h
  split at h
  · cases h
  · split at h
    · have := lookF_lt hlt h
      exact ⟨by omega, this.2.1⟩
    · simp only [Option.some.injEq, Prod.mk.injEq] at h
      obtain ⟨rfl, rfl, -⟩ := h
      exact ⟨by omega, toF_lt hlt hv⟩

/-- Cells laid one behind the other. -/
def layFrom : Array Value → Nat → List Value → Array Value
  | zs, _, [] => zs
  | zs, o, v :: r => layFrom (zs.setIfInBounds o v) (o + 1) r

theorem alloc_setCells {W : World} {t : TypeId} {n : Nat} (hn : n = W.heap.size) : ∀ (vs : List Value) (o : Nat) (zs : Array Value), (W.alloc (.cells zs t)).setCells n o vs = W.alloc (.cells (layFrom zs o vs) t)
  | [], o, zs => rfl
  | v :: r, o, zs => by
    rw [World.setCells, World.setCell_alloc_at _ _ _ _ _ hn, alloc_setCells hn r]
    rfl

theorem there_alloc_new {W : World} {t : TypeId} {n m : Nat} {zs : Array Value} (hn : n = W.heap.size) (hm : m ≤ zs.size) : (W.alloc (.cells zs t)).there n 0 m := fun j hj => by
  subst hn
  have h := heap_alloc_same W (.cells zs t)
  refine ⟨?_, frozen_of h _⟩
  rw [cell_of h (0 + j) (v := zs[0 + j]'(by omega)) (by simp)]
  rfl

set_option maxHeartbeats 4000000 in
theorem decide_at {w : World} {pv pm : Option Addr} {n : Nat} {rd : Nat → Option Nat} {W : Int → Bool} (h : Mem w (.pointer pv) n rd) (hm : Wat w (.pointer pm) W) (f : Nat → Value) (hf : ∀ i, (f i).oneCell' = true) (ps cr va : Nat) (kind : Int) (hp : ps < 4294967296) (hc : cr < 4294967296) (hv : va < 4294967296) (hk1 : -9223372036854775808 ≤ kind) (hk2 : kind ≤ 9223372036854775807) :
    Calls Try.prog 14 #[.pointer pv, .agg #[f 0, f 1, f 2, f 3, f 4, f 5, f 6, f 7, f 8, .int .u32 ps, .int .u32 cr, f 11, f 12, f 13, f 14, f 15, f 16, f 17, f 18], .pointer pm, .int .u32 va, .int .i64 kind] w (VerPost (decF rd n W cr ps va kind) w) := by
  have HM := Lib.hid h
  have HW := Lib.hid hm
  have hone : (#[.pointer pv, f 0, f 1, f 2, f 3, f 4, f 5, f 6, f 7, f 8, .int .u32 ps, .int .u32 cr, f 11, f 12, f 13, f 14, f 15, f 16, f 17, f 18, .pointer pm, .int .u32 va, .int .i64 kind] : Array Value).all (·.oneCell') = true := by
    have hq := fun i => hf i
    simp only [Value.oneCell'] at hq
    simp [Value.oneCell', hq]
  have HO := Lib.hid hone
  clear h hm hf hone
  go_enter Try.func14, Try.ntmps14
  go_upto_region 2 with (first
    | (refine wpList_load_mid rfl 43 (.tmp 6) rfl w.heap.size 0 (by rfl) [f 0, f 1, f 2, f 3, f 4, f 5, f 6, f 7, f 8, .int .u32 ps, .int .u32 cr, f 11, f 12, f 13, f 14, f 15, f 16, f 17, f 18] _ (rangeAcc (by repeat first | (refine heap_alloc_at _ ?_; (simp; done)) | refine heap_alloc_other _ ?_)) Try.underlying43 rfl info_state ?_)
    | (refine wpList_store_mid rfl 91 (.tmp 11) (.tmp 20) rfl (w.heap.size + 1 + 1) 0 #[.pointer pv, f 0, f 1, f 2, f 3, f 4, f 5, f 6, f 7, f 8, .int .u32 ps, .int .u32 cr, f 11, f 12, f 13, f 14, f 15, f 16, f 17, f 18, .pointer pm, .int .u32 va, .int .i64 kind] (by rfl) (by rfl) (there_alloc_new (by simp) (by simp)) info_acc HO.out ?_))
  rw [alloc_setCells (by simp)]
  generalize hz : layFrom _ 0 _ = zs
  obtain rfl : zs = #[.pointer pv, f 0, f 1, f 2, f 3, f 4, f 5, f 6, f 7, f 8, .int .u32 ps, .int .u32 cr, f 11, f 12, f 13, f 14, f 15, f 16, f 17, f 18, .pointer pm, .int .u32 va, .int .i64 kind] := by rw [← hz]; simp only [layFrom, List.setIfInBounds_toArray, List.set_cons_zero, List.set_cons_succ, Nat.zero_add, Nat.reduceAdd]
  clear hz
  go_wp2_with (refine wpList_load_mid rfl 91 (.tmp 11) rfl (w.heap.size + 1 + 1) 0 (by rfl) [.pointer pv, f 0, f 1, f 2, f 3, f 4, f 5, f 6, f 7, f 8, .int .u32 ps, .int .u32 cr, f 11, f 12, f 13, f 14, f 15, f 16, f 17, f 18, .pointer pm, .int .u32 va, .int .i64 kind] _ (rangeAcc (by repeat first | (refine heap_alloc_at _ ?_; (simp; done)) | refine heap_alloc_other _ ?_)) Try.underlying91 rfl info_acc ?_)
  obtain ⟨sz, hsz⟩ : ∃ sz, sz = w.heap.size := ⟨_, rfl⟩
  rw [← hsz]
  generalize hy : World.alloc (World.alloc (World.alloc (World.alloc w _) _) _) _ = y0
  have H0 : Hid (y0.heap[sz + 1 + 1]? = some (.cells #[.pointer pv, f 0, f 1, f 2, f 3, f 4, f 5, f 6, f 7, f 8, .int .u32 ps, .int .u32 cr, f 11, f 12, f 13, f 14, f 15, f 16, f 17, f 18, .pointer pm, .int .u32 va, .int .i64 kind] 91 (0, 0)) ∧ y0.heap[sz + 1]? = some (.cells #[.int .i64 0, .int .i64 0, .int .u32 0, .slice none 0 0, .int .u32 0, .bool false, .int .i64 0, .int .u32 0] 61 (0, 0)) ∧ y0.heap[sz + 1 + 1 + 1]? = some (.cells #[.func (.func 29) #[] #[]] 94 (0, 0)) ∧ Keep [] w y0 ∧ sz = w.heap.size ∧ y0.heap.size = sz + 4) := Lib.hid (by
    subst hy hsz
    refine ⟨?_, ?_, ?_, (((((Keep.refl _ _).alloc _).alloc _).alloc _).alloc _), rfl, by simp⟩
    all_goals (repeat first | (refine heap_alloc_at _ ?_; (simp; done)) | refine heap_alloc_other _ ?_))
  clear hy hsz
  refine (way_at (HM.out.keep0 H0.out.2.2.2.1) (.pointer pm) f ps cr va kind hp hc hv hk1 hk2).mono ?_
  rintro e y ⟨rfl, hk⟩
  have HK := Lib.hid hk
  obtain ⟨r, hr⟩ : ∃ r, wayL rd n cr ps va kind = r := ⟨_, rfl⟩
  rw [hr]
  have hD : decF rd n W cr ps va kind = decV W ps va kind r := by unfold decF; rw [hr]
  have HD := Lib.hid hD
  have HWL := Lib.hid (wayL_lt (rd := rd) (n := n) (cr := cr) (ps := ps) (va := va) (kind := kind) HM.out.lt hv)
  rw [hr] at HWL
  clear hk hD hr
  have HY : Hid (∀ l x, sz + 1 ∉ l → sz + 1 + 1 ∉ l → Keep l y x → x.rangeAt (sz + 1 + 1) 0 [.pointer pv, f 0, f 1, f 2, f 3, f 4, f 5, f 6, f 7, f 8, .int .u32 ps, .int .u32 cr, f 11, f 12, f 13, f 14, f 15, f 16, f 17, f 18, .pointer pm, .int .u32 va, .int .i64 kind] ∧ x.heap[sz + 1]? = some (.cells #[.int .i64 0, .int .i64 0, .int .u32 0, .slice none 0 0, .int .u32 0, .bool false, .int .i64 0, .int .u32 0] 61 (0, 0))) := Lib.hid (fun l x h1 h2 hx => by
    exact ⟨rangeAcc (hx.heap (HK.out.heap H0.out.1 (by simp)) h2), hx.heap (HK.out.heap H0.out.2.1 (by simp)) h1⟩)
  have HJ : Hid (y.heap[sz + 1 + 1 + 1]? = some (.cells #[.func (.func 29) #[] #[]] 94 (0, 0))) := Lib.hid (HK.out.heap H0.out.2.2.1 (by simp))
  have j0 := cell_of HJ.out 0 rfl
  have j1 := frozen_of HJ.out 0
  have j2 := lt_of_heap HJ.out
  cases r with
  | none =>
    unfold wayV
    go_wp2_with (refine wpList_load_mid rfl 91 (.tmp 11) rfl (sz + 1 + 1) 0 (by rfl) [.pointer pv, f 0, f 1, f 2, f 3, f 4, f 5, f 6, f 7, f 8, .int .u32 ps, .int .u32 cr, f 11, f 12, f 13, f 14, f 15, f 16, f 17, f 18, .pointer pm, .int .u32 va, .int .i64 kind] _ (HY.out [sz + 1 + 1 + 1] _ (by simp) (by simp) (by repeat first | exact Keep.refl _ _ | refine Keep.alloc ?_ _ | refine Keep.setCell ?_ (.inl (by simp)) _)).1 Try.underlying91 rfl info_acc ?_)
    generalize hz : World.alloc (World.setCell y _ _) _ = z
    have hzk : Keep [sz + 1 + 1 + 1] y z := by rw [← hz]; exact ((Keep.refl _ _).setCell (.inl (by simp)) _).alloc _
    have HZ := Lib.hid (And.intro (HY.out [sz + 1 + 1 + 1] z (by simp) (by simp) hzk).2 (And.intro ((H0.out.2.2.2.1.trans HK.out).then hzk (by have := H0.out.2.2.2.2.1; simp; omega)) (show sz + 1 < z.heap.size by have h1 := hzk.size; have h2 := HK.out.size; have := H0.out.2.2.2.2.2; omega)))
    clear hz hzk j0 j1 j2
    refine (failed_at (.pointer pv) (.pointer pm) f ps cr va kind 0 0 0 0 0 0 hk1 hk2 z).mono ?_
    rintro en w2 ⟨va2, cap, rfl, hR, hk2', hg⟩
    have HF : Hid (∀ w3, Keep [sz + 1] w2 w3 → VerPost (failV va kind) w (.returned (verV (failV va kind) (.slice va2 (failV va kind).tables.length cap))) w3) := Lib.hid (fun w3 h3 => verPost_on (z := z) hR (HZ.out.2.1.trans hk2') hg h3 (by have := H0.out.2.2.2.2.1; omega) HZ.out.2.2 HZ.out.2.1.size)
    obtain ⟨⟨c0, c1, c2, c3, c4, c5, c6, c7⟩, f0, f1, f2, f3, f4, f5, f6, f7⟩ := eight_cells (hk2'.heap HZ.out.1 (by simp))
    obtain ⟨V, hV⟩ : ∃ V, V = failV va kind := ⟨_, rfl⟩
    rw [← hV] at HF ⊢
    have HDV : Hid (decF rd n W cr ps va kind = V) := Lib.hid (HD.out.trans hV.symm)
    clear hR hk2' hg hV
    unfold verV
    go_wp2_with fail
    exact bodyPost_ret (v := verV V (.slice va2 V.tables.length cap)) (by simp [results, Try.results14, go_sem, verV, c0, c1, c2, c3, c4, c5, c6, c7]) rfl (by rw [HDV.out]; refine HF.out _ ?_; repeat first | refine Keep.setCell ?_ (.inl (by simp)) _ | exact Keep.refl _ _)
  | some r =>
    obtain ⟨b, a, e, d, t, p⟩ := r
    obtain ⟨hb, ha⟩ := HWL.out b a e d t p rfl
    unfold wayV
    go_wp2_with (refine wpList_load_mid rfl 91 (.tmp 11) rfl (sz + 1 + 1) 0 (by rfl) [.pointer pv, f 0, f 1, f 2, f 3, f 4, f 5, f 6, f 7, f 8, .int .u32 ps, .int .u32 cr, f 11, f 12, f 13, f 14, f 15, f 16, f 17, f 18, .pointer pm, .int .u32 va, .int .i64 kind] _ (HY.out [sz + 1 + 1 + 1] _ (by simp) (by simp) (by repeat first | exact Keep.refl _ _ | refine Keep.alloc ?_ _ | refine Keep.setCell ?_ (.inl (by simp)) _)).1 Try.underlying91 rfl info_acc ?_)
    generalize hz : World.alloc y _ = z
    have hzk : Keep [sz + 1 + 1 + 1] y z := by rw [← hz]; exact (Keep.refl _ _).alloc _
    have HZ := Lib.hid (And.intro (HY.out [sz + 1 + 1 + 1] z (by simp) (by simp) hzk).2 (And.intro ((H0.out.2.2.2.1.trans HK.out).then hzk (by have := H0.out.2.2.2.2.1; simp; omega)) (show sz + 1 < z.heap.size by have h1 := hzk.size; have h2 := HK.out.size; have := H0.out.2.2.2.2.2; omega)))
    clear hz hzk j0 j1 j2
    refine (watched_at (HW.out.keep0 HZ.out.2.1) (.pointer pv) f ps cr va kind b a e d t p hp hb ha).mono ?_
    rintro en w2 ⟨va2, cap, rfl, hR, hk2', hg⟩
    have HF : Hid (∀ w3, Keep [sz + 1] w2 w3 → VerPost (overV W b a e d t p (decide (ps / 4 % 2 = 1)) kind) w (.returned (verV (overV W b a e d t p (decide (ps / 4 % 2 = 1)) kind) (.slice va2 (overV W b a e d t p (decide (ps / 4 % 2 = 1)) kind).tables.length cap))) w3) := Lib.hid (fun w3 h3 => verPost_on (z := z) hR (HZ.out.2.1.trans hk2') hg h3 (by have := H0.out.2.2.2.2.1; omega) HZ.out.2.2 HZ.out.2.1.size)
    obtain ⟨⟨c0, c1, c2, c3, c4, c5, c6, c7⟩, f0, f1, f2, f3, f4, f5, f6, f7⟩ := eight_cells (hk2'.heap HZ.out.1 (by simp))
    obtain ⟨V, hV⟩ : ∃ V, V = overV W b a e d t p (decide (ps / 4 % 2 = 1)) kind := ⟨_, rfl⟩
    rw [← hV] at HF ⊢
    have HDV : Hid (decF rd n W cr ps va kind = V) := Lib.hid (HD.out.trans hV.symm)
    clear hR hk2' hg hV
    unfold verV
    go_wp2_with fail
    exact bodyPost_ret (v := verV V (.slice va2 V.tables.length cap)) (by simp [results, Try.results14, go_sem, verV, c0, c1, c2, c3, c4, c5, c6, c7]) rfl (by rw [HDV.out]; refine HF.out _ ?_; repeat first | refine Keep.setCell ?_ (.inl (by simp)) _ | exact Keep.refl _ _)
end Go.Proofs.Ytnpnedimgfbnhaa

/- Memories as tables are read in them; a plain access that is led on. -/
namespace Go.Proofs.Ytnpnedimgfbnhaa
open Go.RowKit Go.Mum
set_option linter.unusedVariables false
set_option maxRecDepth 100000

theorem mem_of_ram {w : World} {r fb g n : Nat} {L : List Int} (h : RamAt w r fb g (List.range n) L) (hl : L.length = 64 * n) (hn : n ≤ 512) : Mem w (.pointer (some ⟨r, 0, none⟩)) n (rdOf n L) := by
  refine ⟨fun x hx a ha => ?_, fun x hx => ?_, fun a z hz => rdOf_lt h.bytes hl hz, hn⟩
  · obtain ⟨e1, e2⟩ := wordAt_rd h.bytes hl a
    rw [← e1, ← e2]
    have hr := h.keep0 hx
    unfold wordAt
    by_cases hy : a % 4 = 0 ∧ a < 64 * n
    · have hb : layB n a 4 4 = true := layB_yes (by omega)
      rw [if_pos hb, hb]
      refine (rword_yes hr a hy.1 (by rw [List.length_range]; exact hy.2)).mono ?_
      rintro e w' ⟨rfl, m, rfl⟩
      exact ⟨by rw [pl_range hy.2], (Keep.refl _ _).drewN _⟩
    · have hb : layB n a 4 4 = false := layB_no (by omega)
      rw [if_neg (by rw [hb]; simp), hb]
      refine (rword_no hr.sz a ha (by rw [List.length_range]; exact hy)).mono ?_
      rintro e w' ⟨rfl, rfl⟩
      exact ⟨rfl, Keep.refl _ _⟩
  · have := rsize_any (h.keep0 hx).sz
    rw [List.length_range] at this
    exact this

/-- The state that is all 0. -/
def st0 (i : Nat) : Value := if i = 18 then .bool false else .int .u32 0
theorem st0_one (i : Nat) : (st0 i).oneCell' = true := by unfold st0; split <;> rfl

theorem dec_works (rd : Nat → Option Nat) (W : Int → Bool) (h : W 0 = false) : decF rd 1 W 0 0 8 3 = ⟨1, 0, 7, [], 0, false, 0, 0⟩ := by
  have e1 : toF rd 1 0 16 0 8 3 = (8, true) := by simp [toF]
  have e2 : wayL rd 1 0 0 8 3 = some (23, 8, 0, 0, 0, 0) := by unfold wayL; rw [e1]; simp
  unfold decF
  rw [e2]
  simp [decV, overV, h, leadB]

set_option maxHeartbeats 1000000 in
theorem lworks_at (w : World) : Calls Try.prog 11 #[] w (BoolPost true w) := by
  go_enter Try.func11, Try.ntmps11
  go_wp2_with fail
  refine (rnew_good 1 _ (by omega) (by omega)).mono ?_
  rintro e y ⟨r, fb, g, hr, hfb, hg, rfl, hA, hK⟩
  have HA := Lib.hid (And.intro hA hK)
  clear hA hK hr hfb hg
  go_wp2_with fail
  refine (mnew_good 1 _ (by omega) (by omega)).mono ?_
  rintro e y2 ⟨b, m1, m2, hb, hm1, hm2, rfl, hM, hK2⟩
  have HM := Lib.hid (And.intro hM hK2)
  have HD := Lib.hid (decide_at (mem_of_ram (HA.out.1.keep0 HM.out.2) (by simp) (by omega)) HM.out.1.wat st0 st0_one 0 0 8 3 (by omega) (by omega) (by omega) (by omega) (by omega))
  rw [dec_works _ _ (by simp)] at HD
  clear hM hK2 hb hm1 hm2
  go_wp2_with fail
  refine HD.out.mono ?_
  rintro e y3 ⟨a, cap, rfl, hR, hk3, hg⟩
  have HF := Lib.hid ((HA.out.2.trans HM.out.2).trans hk3)
  clear hR hk3 hg
  unfold verV
  go_wp2_with fail
  go_ret
  exact ⟨rfl, HF.out.alloc _⟩
end Go.Proofs.Ytnpnedimgfbnhaa
