/- Contracts of the functions that the law reaches, walked, and the plain laws on them (several texts in one). -/
import Derived.Test.YtpinoejckagjbaaM45
import Derived.Test.YtpinoejckagjbaaM41

/- Spaces are made. -/
namespace Go.Proofs.Ytpinoejckagjbaa
open Go.RowKit Go.Mum
set_option linter.unusedVariables false
set_option linter.unusedSimpArgs false
set_option maxRecDepth 100000

/-- Directories, in a row. -/
def DirsAt (w : World) (s : Option Addr) (zs : List Int) : Prop :=
  zs = [] ∨ ∃ lb off, s = some ⟨lb, off, none⟩ ∧ lb < w.heap.size ∧ ∀ i (hi : i < zs.length), w.cell? ⟨lb, off + i, none⟩ = some (.int .i64 zs[i])

/-- May there be spaces with these directories in a memory of so many frames? -/
def dirsB (zs : List Int) (n : Nat) : Bool := zs.all (fun z => decide (0 ≤ z ∧ z ≤ 512)) && (apartB zs && decide (Lib.maxOf zs < (n : Int) - 1))

def A0 : QSt := { tk := fun _ => false, us := fun _ => false, kp := fun _ => 0, kr := fun _ => 0 }

/-- What New leaves. -/
def NewSp (r fb g p pm n : Nat) (zs : List Int) (us : List Nat) (w : World) (e : Ending) (y : World) : Prop :=
  ∃ q sh f ga gc ea ec, e = .returned (.tuple #[.pointer (some ⟨q, 0, none⟩), .int .i64 0]) ∧
    QAt y q r fb g p pm zs.length sh A0 (List.range zs.length) false 0 0 f ga gc ea ec us ∧
    (∀ k (hk : k < zs.length), ShAt y (sh k) r p zs[k] (fun _ => tab0)) ∧
    RamAt y r fb g (List.range n) (List.replicate (64 * n) 0) ∧
    ((w.heap.size ≤ q ∧ q < ga) ∧ (∀ k, k < zs.length → q < sh k) ∧ (∀ i j, i < zs.length → j < zs.length → i ≠ j → sh i ≠ sh j) ∧ (∀ b o, ea = some ⟨b, o, none⟩ → b < y.heap.size)) ∧ Keep [g] w y

theorem spnew_args {w : World} {r fb g n : Nat} {L : List Int} (hR : RamAt w r fb g (List.range n) L) (s : Option Addr) (len cap p : Nat) (ua : Option Addr) (ul uc : Nat) (h : len = 0 ∨ 8 < len ∨ 16 < ul) :
    Calls Try.prog 34 #[.pointer (some ⟨r, 0, none⟩), .slice s len cap, .pointer (some ⟨p, 0, none⟩), .slice ua ul uc] w fun e y => e = .returned (.tuple #[.pointer none, .int .i64 2]) ∧ w = y := by
  have hsz := hR.sz
  rw [List.length_range] at hsz
  have hn := hR.size
  rw [List.length_range] at hn
  have C0 := Lib.hid (rsize_any hsz)
  have n0 : ¬ (64 * (n : Int) = 0) := by omega
  have n0' : ¬ (n = 0) := by omega
  clear hsz hR hn
  rcases (by omega : len = 0 ∨ (¬ ((len : Int) = 0) ∧ ¬ (len = 0) ∧ (8 : Int) < (len : Int)) ∨ (¬ ((len : Int) = 0) ∧ ¬ (len = 0) ∧ ¬ ((8 : Int) < (len : Int)) ∧ (16 : Int) < (ul : Int))) with rfl | ⟨h1, h1', h2⟩ | ⟨h1, h1', h2, h3⟩
  all_goals
    clear h
    go_enter Try.func34, Try.ntmps34
    go_wp2_with fail
    refine C0.out.mono ?_
    rintro e w' ⟨rfl, rfl⟩
    go_wp2_with fail
    go_ret2
    exact ⟨rfl, rfl⟩

set_option maxHeartbeats 2000000 in
theorem clone_zero (a : Addr) (c : Nat) (w : World) :
    Calls Try.prog 69 #[.slice (some a) 0 c] w fun e w' => ∃ v', e = .returned v' ∧ w'.ownsRow w.heap.size 22 1 v' 0 [] ∧ Below w.heap.size w w' := by
  obtain ⟨i0, hi, hz0, hz1, hz2⟩ := info_parts info_u32'
  have q22 : ∀ (w : World) (a : Option Addr) (n c n' c' : Nat), (binOp .eql 44 (.slice a n c) (.slice none n' c')).run Try.prog w = .ok (.bool a.isNone) w := fun w a n c n' c' => Lib.run_eql_slice_nil w _ _ a n c n' c' Try.underlying44
  go_enter Try.func69, Try.ntmps69
  go_wp2_with (at_builtin; refine wpList_append_own _ rfl _ _ 44 rfl w.heap.size 22 i0 (.int .u32 0) 1 4 Try.underlying44 hi hz0 hz1 hz2 rfl (by decide) _ _ _ rfl (World.ownsRow_made w #[] 0 (Nat.le_refl _) (Nat.zero_le _) rfl) a 0 c [] rfl rfl (by intro j u hj; simp at hj) (by intro u hu; cases hu) (by unfold maxLen; omega) (by omega) (by simp) ?_; intro v' w1 hown hgrow hnil)
  go_ret
  exact ⟨v', rfl, by simpa using hown, ((Below.refl _ w).alloc (Nat.le_refl _) _).grown hgrow (by simp) (by intro k hk; cases hk; exact Nat.le_refl _)⟩

def CloneU (us : List Nat) (x : World) (e : Ending) (y : World) : Prop :=
  ∃ ea ec, e = .returned (.slice ea us.length ec) ∧ y.ownsRow x.heap.size 22 1 (.slice ea us.length ec) us.length (us.map fun k => .int .u32 (k : Nat)) ∧ Keep [] x y

theorem uclone_at {x : World} {ua : Option Addr} {us nb : List Nat} (h : UpR x ua us nb) (uc : Nat) :
    Calls Try.prog 69 #[.slice ua us.length uc] x (CloneU us x) := by
  obtain ⟨i0, hi, hz0, hz1, hz2⟩ := info_parts info_u32'
  have key : ∀ {n : Nat} {xs : List Value} {e : Ending} {y : World}, n = us.length → xs = (us.map fun k => .int .u32 (k : Nat)) → (∃ v', e = .returned v' ∧ y.ownsRow x.heap.size 22 1 v' n xs ∧ Below x.heap.size x y) → CloneU us x e y := by
    rintro n xs e y rfl rfl ⟨v, rfl, h1, h2⟩
    obtain ⟨a, c, rfl⟩ := own_form h1
    exact ⟨a, c, rfl, h1, below_keep h2 (Nat.le_refl _)⟩
  rcases h.row with h3 | ⟨b, o, rfl, h4, h5⟩
  · subst h3
    cases ua with
    | none => exact (Try.slices_Clone_nil_f69 0 uc x).mono fun e y ⟨h1, h2⟩ => ⟨none, 0, h1, World.ownsRow_nil _ _ _ _, by rw [h2]; exact Keep.refl _ _⟩
    | some a => exact (clone_zero a uc x).mono fun e y h => key rfl rfl h
  · exact (Try.slices_Clone_f69 i0 (.int .u32 0) 1 4 hi hz0 hz1 hz2 rfl (by decide) (fun w => by kernel_rfl) b o us.length uc (us.map fun k => .int .u32 (k : Nat)) x (by simp) (by have := h.le; unfold maxLen; omega) (by have := h.le; omega) (fun j u hj => by
      rw [List.getElem?_map] at hj
      by_cases hl : j < us.length
      · rw [List.getElem?_eq_getElem hl] at hj
        rw [h5 j hl]; exact hj
      · rw [List.getElem?_eq_none (by omega)] at hj; cases hj) (fun u hu => by
      obtain ⟨k, -, rfl⟩ := List.mem_map.1 hu; rfl)).mono fun e y ⟨v, h1, h2, _, h3⟩ => key rfl rfl ⟨v, h1, h2, h3⟩

/-- Spaces at first. -/
def spArr (r p : Nat) (ea : Option Addr) (ul ec : Nat) : Array Value := #[.bool true, .pointer (some ⟨r, 0, none⟩), .pointer (some ⟨p, 0, none⟩), .pointer none, .bool false, .bool false, .int .u32 0, .int .u32 0, .pointer none, .bool false, .bool false, .int .u32 0, .int .u32 0, .pointer none, .bool false, .bool false, .int .u32 0, .int .u32 0, .pointer none, .bool false, .bool false, .int .u32 0, .int .u32 0, .pointer none, .bool false, .bool false, .int .u32 0, .int .u32 0, .pointer none, .bool false, .bool false, .int .u32 0, .int .u32 0, .pointer none, .bool false, .bool false, .int .u32 0, .int .u32 0, .pointer none, .bool false, .bool false, .int .u32 0, .int .u32 0, .slice none 0 0, .bool false, .slice ea ul ec, .int .i64 0, .int .i64 0]

theorem build_sp (r p : Nat) (ea : Option Addr) (ul ec : Nat) (w : World) : (Instr.build 102 #[(0, .bool true), (1, .pointer (some ⟨r, 0, none⟩)), (2, .pointer (some ⟨p, 0, none⟩)), (6, .slice ea ul ec)]).run Try.prog w = .ok (.agg (spArr r p ea ul ec)) w := by kernel_rfl

theorem splice_rep (m q k : Nat) (h : q + k ≤ m) : splice (List.replicate m (0 : Int)) q (List.replicate k 0) = List.replicate m 0 := by
  unfold splice
  rw [List.take_replicate, List.drop_replicate, List.length_replicate, List.replicate_append_replicate, List.replicate_append_replicate]
  congr 1
  omega

theorem le_foldl_max : ∀ (l : List Int) (a : Int), a ≤ l.foldl max a ∧ ∀ z ∈ l, z ≤ l.foldl max a
  | [], a => ⟨Int.le_refl _, by simp⟩
  | x :: l, a => by
    obtain ⟨h1, h2⟩ := le_foldl_max l (max a x)
    refine ⟨?_, fun z hz => ?_⟩
    · simp only [List.foldl_cons]; omega
    · simp only [List.foldl_cons]
      rcases List.mem_cons.1 hz with rfl | hz
      · omega
      · exact h2 z hz

theorem le_maxOf {l : List Int} {z : Int} (h : z ∈ l) : z ≤ Lib.maxOf l := (le_foldl_max l _).2 z h

theorem dirsB_dir {zs : List Int} {n : Nat} (h : dirsB zs n = true) {z : Int} (hz : z ∈ zs) : 0 ≤ z ∧ z ≤ 512 ∧ z.toNat + 2 ≤ n := by
  unfold dirsB at h
  rw [Bool.and_eq_true, Bool.and_eq_true, List.all_eq_true, decide_eq_true_eq] at h
  have h1 := of_decide_eq_true (h.1 z hz)
  have h2 := le_maxOf hz
  omega

/-- How far the spaces are made: so many shadows, and so many places in the row of ages. -/
def NewJ (r p fb g n B : Nat) (zs : List Int) (us : List Nat) (ea : Option Addr) (ec q k kr : Nat) (w x : World) : Prop :=
  ∃ (sh : Nat → Nat) (f : Nat → Value) (av : Value), (ArrAt x q 102 48 f ∧ w.heap.size ≤ q) ∧ (f 0 = .bool true ∧ f 1 = .pointer (some ⟨r, 0, none⟩) ∧ f 2 = .pointer (some ⟨p, 0, none⟩)) ∧
    (∀ j, j < 8 → f (3 + j * 5) = (if j < k then .pointer (some ⟨sh j, 0, none⟩) else .pointer none) ∧ f (3 + j * 5 + 1) = .bool false ∧ f (3 + j * 5 + 2) = .bool false ∧ f (3 + j * 5 + 3) = .int .u32 0 ∧ f (3 + j * 5 + 4) = .int .u32 0) ∧
    (f 43 = av ∧ f 44 = .bool false ∧ f 45 = .slice ea us.length ec ∧ f 46 = .int .i64 0 ∧ f 47 = .int .i64 0) ∧
    x.ownsRow (q + 1) 3 1 av kr ((List.range kr).map fun k => .int .i64 (k : Nat)) ∧
    RamAt x r fb g (List.range n) (List.replicate (64 * n) 0) ∧
    (∀ j (hj : j < zs.length), j < k → ShAt x (sh j) r p zs[j] (fun _ => tab0)) ∧
    ((∀ j, j < k → q < sh j ∧ sh j < x.heap.size) ∧ (∀ i j, i < k → j < k → i ≠ j → sh i ≠ sh j)) ∧
    (w.heap.size ≤ B ∧ x.ownsRow B 22 1 (.slice ea us.length ec) us.length (us.map fun k => .int .u32 (k : Nat)) ∧ (∀ b o, ea = some ⟨b, o, none⟩ → b < q)) ∧ Keep [g] w x

theorem ram_ne {x : World} {r fb g : Nat} {ks : List Nat} {L : List Int} (h : RamAt x r fb g ks L) {b i : Nat} {z : Int} (hc : x.cell? ⟨b, i, none⟩ = some (.int .i64 z)) : b ≠ g := by
  rintro rfl
  have hd := h.data
  unfold World.cell? at hc
  rw [hd] at hc
  simp only [Obj.cells.injEq] at hc
  simp [u8s] at hc

section
variable {r p fb g n B : Nat} {zs : List Int} {us : List Nat} {ea : Option Addr} {ec q k kr : Nat} {w x y z : World}

theorem NewJ.first (hR : RamAt z r fb g (List.range n) (List.replicate (64 * n) 0)) (hk : Keep [] w z) (hB : w.heap.size ≤ B) (hu : z.ownsRow B 22 1 (.slice ea us.length ec) us.length (us.map fun k => .int .u32 (k : Nat))) (hq : q = z.heap.size) : NewJ r p fb g n B zs us ea ec q 0 0 w (z.alloc (.cells (spArr r p ea us.length ec) 102)) := by
  have hh : (z.alloc (.cells (spArr r p ea us.length ec) 102)).heap[q]? = some (.cells (spArr r p ea us.length ec) 102 (0, 0)) := heap_alloc_at _ hq
  have hka : Keep [] z (z.alloc (.cells (spArr r p ea us.length ec) 102)) := (Keep.refl _ _).alloc _
  refine ⟨fun _ => 0, fun j => (spArr r p ea us.length ec).toList.getD j undef, .slice none 0 0, ⟨⟨_, hh, rfl, fun j hj => ?_⟩, by rw [hq]; exact hk.size⟩, ⟨rfl, rfl, rfl⟩, fun j hj => ?_, ⟨rfl, rfl, rfl, rfl, rfl⟩, World.ownsRow_nil _ _ _ _, hR.keep0 hka, fun _ _ h => by omega, ⟨fun _ h => by omega, fun _ _ h => by omega⟩, ⟨hB, own_keep hu hka (fun _ _ => by simp), fun b o hb => ?_⟩, (hk.trans hka).weaken (by simp)⟩
  · have : j < (spArr r p ea us.length ec).toList.length := hj
    show _ = some (List.getD _ j undef)
    rw [List.getD_eq_getElem?_getD, ← Array.getElem?_toList, List.getElem?_eq_getElem this]
    rfl
  · rcases (by omega : j = 0 ∨ j = 1 ∨ j = 2 ∨ j = 3 ∨ j = 4 ∨ j = 5 ∨ j = 6 ∨ j = 7) with rfl | rfl | rfl | rfl | rfl | rfl | rfl | rfl <;> exact ⟨rfl, rfl, rfl, rfl, rfl⟩
  · have := (own_block hu (g := b) (by rw [hb]; rfl)).2
    omega

theorem NewJ.cells (h : NewJ r p fb g n B zs us ea ec q k kr w x) (hk : k < 8) : (x.cell? ⟨q, 3 + k * 5, none⟩ = some (.pointer none) ∧ x.cell? ⟨q, 3 + k * 5 + 1, none⟩ = some (.bool false) ∧ x.cell? ⟨q, 3 + k * 5 + 2, none⟩ = some (.bool false) ∧ x.cell? ⟨q, 3 + k * 5 + 3, none⟩ = some (.int .u32 0) ∧ x.cell? ⟨q, 3 + k * 5 + 4, none⟩ = some (.int .u32 0)) ∧ ∀ j, x.frozen? ⟨q, j, none⟩ = false := by
  obtain ⟨sh, f, av, ⟨ha, -⟩, -, hf, -⟩ := h
  obtain ⟨f0, f1, f2, f3, f4⟩ := hf k hk
  rw [if_neg (by omega)] at f0
  exact ⟨⟨by rw [ArrAt.cell ha (by omega), f0], by rw [ArrAt.cell ha (by omega), f1], by rw [ArrAt.cell ha (by omega), f2], by rw [ArrAt.cell ha (by omega), f3], by rw [ArrAt.cell ha (by omega), f4]⟩, fun j => ArrAt.frozen ha j⟩

/-- One more shadow is put. -/
theorem NewJ.put (h : NewJ r p fb g n B zs us ea ec q k kr w x) (hk : k < 8) {s : Nat} (hs : x.heap.size ≤ s) (hkz : k < zs.length) (hS : ShAt y s r p zs[k] (fun _ => tab0)) (hR : RamAt y r fb g (List.range n) (List.replicate (64 * n) 0)) (hK : Keep [g] x y)
    (hz : z = ((((y.setCell ⟨q, 3 + k * 5, none⟩ (.pointer (some ⟨s, 0, none⟩))).setCell ⟨q, 3 + k * 5 + 1, none⟩ (.bool false)).setCell ⟨q, 3 + k * 5 + 2, none⟩ (.bool false)).setCell ⟨q, 3 + k * 5 + 3, none⟩ (.int .u32 0)).setCell ⟨q, 3 + k * 5 + 4, none⟩ (.int .u32 0)) : NewJ r p fb g n B zs us ea ec q (k + 1) kr w z := by
  obtain ⟨sh, f, av, ⟨ha, hq⟩, ⟨f0, f1, f2⟩, hf, hfr, hrow, hR0, hSh, ⟨hs1, hs2⟩, ⟨hB, hu, hub⟩, hkw⟩ := h
  have hgq : q ≠ g := fun e => by subst e; obtain ⟨c, hc, _⟩ := ha; rw [hR0.data] at hc; simp at hc
  have hql := ArrAt.lt ha
  have hsl := ArrAt.lt hS
  have hks : Keep [q] y z := by rw [hz]; exact keepSet (keepSet (keepSet (keepSet (keepSet (Keep.refl _ _) (by simp) _ _) (by simp) _ _) (by simp) _ _) (by simp) _ _) (by simp) _ _
  have hkx : Keep [q, g] x z := (hK.weaken (by simp)).trans (hks.weaken (by simp))
  have haz : ArrAt z q 102 48 (fset (fset (fset (fset (fset f (3 + k * 5) (.pointer (some ⟨s, 0, none⟩))) (3 + k * 5 + 1) (.bool false)) (3 + k * 5 + 2) (.bool false)) (3 + k * 5 + 3) (.int .u32 0)) (3 + k * 5 + 4) (.int .u32 0)) := by
    rw [hz]; exact ArrAt.set (ArrAt.set (ArrAt.set (ArrAt.set (ArrAt.set (ArrAt.keep ha hK (by simpa using hgq)) _ _) _ _) _ _) _ _) _ _
  have hne : ∀ j, (j < 3 + k * 5 ∨ 3 + k * 5 + 5 ≤ j) → fset (fset (fset (fset (fset f (3 + k * 5) (.pointer (some ⟨s, 0, none⟩))) (3 + k * 5 + 1) (.bool false)) (3 + k * 5 + 2) (.bool false)) (3 + k * 5 + 3) (.int .u32 0)) (3 + k * 5 + 4) (.int .u32 0) j = f j := fun j hj => by rw [fset_ne (by omega), fset_ne (by omega), fset_ne (by omega), fset_ne (by omega), fset_ne (by omega)]
  have hrg : ∀ {e2 : TypeId} {B2 n2 : Nat} {v2 : Value} {xs : List Value}, e2 ≠ 5 → e2 ≠ 102 → x.ownsRow B2 e2 1 v2 n2 xs → z.ownsRow B2 e2 1 v2 n2 xs := fun {e2 B2 n2 v2 xs} h8 hsp ho => own_keep ho hkx (fun b hb => by
    obtain ⟨c, hc⟩ := own_type ho hb
    obtain ⟨c2, hc2, _⟩ := ha
    simp only [List.mem_cons, List.not_mem_nil, or_false, not_or]
    exact ⟨fun e => type_ne hc hc2 hsp e, fun e => type_ne hc hR0.data h8 e⟩)
  have hramq : r ≠ q ∧ fb ≠ q := by
    obtain ⟨c2, hc2, _⟩ := ha
    obtain ⟨_, h1, _⟩ := hR0.head
    obtain ⟨_, h2, _⟩ := hR0.rows
    exact ⟨type_ne h1 hc2 (by decide), type_ne h2 hc2 (by decide)⟩
  refine ⟨fun j => if j = k then s else sh j, _, av, ⟨haz, hq⟩, ⟨?_, ?_, ?_⟩, fun j hj => ?_, ⟨?_, ?_, ?_, ?_, ?_⟩, hrg (by decide) (by decide) hrow, hR.keep hks (by simpa using hramq.1) (by simpa using hramq.2) (by simpa using fun e => hgq e.symm), fun j hj hjk => ?_, ⟨fun j hj => ?_, fun i j hi hj hij => ?_⟩, ⟨hB, hrg (by decide) (by decide) hu, hub⟩, hkw.then hkx (by intro b hb hlt; simp only [List.mem_cons, List.not_mem_nil, or_false] at hb ⊢; omega)⟩
  · rw [hne _ (by omega), f0]
  · rw [hne _ (by omega), f1]
  · rw [hne _ (by omega), f2]
  · obtain ⟨g0, g1, g2, g3, g4⟩ := hf j hj
    by_cases hjk : j = k
    · subst hjk
      rw [if_pos (by omega)]
      dsimp only
      rw [if_pos rfl]
      refine ⟨?_, ?_, ?_, ?_, ?_⟩
      · rw [fset_ne (by omega), fset_ne (by omega), fset_ne (by omega), fset_ne (by omega), fset_same]
      · rw [fset_ne (by omega), fset_ne (by omega), fset_ne (by omega), fset_same]
      · rw [fset_ne (by omega), fset_ne (by omega), fset_same]
      · rw [fset_ne (by omega), fset_same]
      · rw [fset_same]
    · rw [hne _ (by omega), hne _ (by omega), hne _ (by omega), hne _ (by omega), hne _ (by omega), g0, g1, g2, g3, g4]
      dsimp only
      rw [if_neg hjk]
      refine ⟨?_, rfl, rfl, rfl, rfl⟩
      by_cases h : j < k
      · rw [if_pos h, if_pos (by omega)]
      · rw [if_neg h, if_neg (by omega)]
  · rw [hne _ (by omega), hfr.1]
  · rw [hne _ (by omega), hfr.2.1]
  · rw [hne _ (by omega), hfr.2.2.1]
  · rw [hne _ (by omega), hfr.2.2.2.1]
  · rw [hne _ (by omega), hfr.2.2.2.2]
  · show ShAt z (if j = k then s else sh j) r p zs[j] _
    by_cases h : j = k
    · subst h
      rw [if_pos rfl]
      exact hS.keep hks (by simp; omega)
    · rw [if_neg h]
      have h1 := hSh j hj (by omega)
      have h2 := hs1 j (by omega)
      obtain ⟨c, hc, _⟩ := id h1
      exact h1.keep hkx (by
        simp only [List.mem_cons, List.not_mem_nil, or_false, not_or]
        exact ⟨by omega, fun e => type_ne hc hR0.data (by decide) e⟩)
  · show q < (if j = k then s else sh j) ∧ (if j = k then s else sh j) < z.heap.size
    have := hks.size
    have := hK.size
    by_cases h : j = k
    · rw [if_pos h]; omega
    · rw [if_neg h]; have := hs1 j (by omega); omega
  · show (if i = k then s else sh i) ≠ (if j = k then s else sh j)
    by_cases h : i = k
    · have h' : j ≠ k := by omega
      rw [if_pos h, if_neg h']; have := hs1 j (by omega); omega
    · rw [if_neg h]
      by_cases h' : j = k
      · rw [if_pos h']; have := hs1 i (by omega); omega
      · rw [if_neg h']; exact hs2 i j (by omega) (by omega) hij

/-- One more place is appended. -/
theorem NewJ.app (h : NewJ r p fb g n B zs us ea ec q k kr w x) {av : Value} (hav : x.cell? ⟨q, 43, none⟩ = some av) {o : Obj} {v' : Value} (ho : y.ownsRow (q + 1) 3 1 v' (kr + 1) ((List.range kr).map (fun k => .int .i64 (k : Nat)) ++ [.int .i64 (kr : Nat)])) (hgr : (x.alloc o).grownBy y av.ownBlock) : (∃ u, y.cell? ⟨q, 43, none⟩ = some u ∧ y.frozen? ⟨q, 43, none⟩ = false) ∧ NewJ r p fb g n B zs us ea ec q k (kr + 1) w (y.setCell ⟨q, 43, none⟩ v') := by
  obtain ⟨sh, f, av', ⟨ha, hq⟩, ⟨f0, f1, f2⟩, hf, hfr, hrow, hR0, hSh, ⟨hs1, hs2⟩, ⟨hB, hu, hub⟩, hkw⟩ := h
  have hcq : x.cell? ⟨q, 43, none⟩ = some (f 43) := ArrAt.cell ha (by omega)
  rw [hcq, hfr.1] at hav
  cases hav
  obtain ⟨l, hl1, hk⟩ := grown_keepTo hgr
  have hka : Keep l x y := ((Keep.refl l x).alloc _).trans hk
  have hl2 : ∀ b ∈ l, q + 1 ≤ b ∧ ∃ c, x.heap[b]? = some (.cells c 3 (0, 0)) := fun b hb => ⟨(own_block hrow (hl1 b hb)).1, own_type hrow (hl1 b hb)⟩
  have hql : q ∉ l := fun hm => by have := (hl2 q hm).1; omega
  have hks : Keep [q] y (y.setCell ⟨q, 43, none⟩ v') := keepSet (Keep.refl _ _) (by simp) _ _
  have hkl : Keep (q :: l) x (y.setCell ⟨q, 43, none⟩ v') := (hka.weaken (by intro k hk _; simp [hk])).trans (hks.weaken (by simp))
  have hay := ArrAt.keep ha hka hql
  have hty : ∀ {b : Nat} {c : Array Value} {t : TypeId}, x.heap[b]? = some (.cells c t (0, 0)) → t ≠ 3 → b ≠ q → b ∉ q :: l := fun {b c t} hb ht hbq hm => by
    rcases List.mem_cons.1 hm with e | e
    · exact hbq e
    · obtain ⟨c2, hc2⟩ := (hl2 b e).2
      exact type_ne hb hc2 ht rfl
  obtain ⟨cq, hcq2, _⟩ := id ha
  have hur : (y.setCell ⟨q, 43, none⟩ v').ownsRow B 22 1 (.slice ea us.length ec) us.length (us.map fun k => .int .u32 (k : Nat)) := own_keep hu hkl (fun b hb => by
    obtain ⟨c, hc⟩ := own_type hu hb
    exact hty hc (by decide) (type_ne hc hcq2 (by decide)))
  refine ⟨⟨_, ArrAt.cell hay (by omega), ArrAt.frozen hay _⟩, sh, _, v', ⟨ArrAt.set hay _ _, hq⟩, ⟨?_, ?_, ?_⟩, fun j hj => ?_, ⟨?_, ?_, ?_, ?_, ?_⟩, ?_, ?_, fun j hj hjk => ?_, ⟨fun j hj => ?_, hs2⟩, ⟨hB, hur, hub⟩, ?_⟩
  · show fset f 43 v' 0 = _; rw [fset_ne (by omega), f0]
  · show fset f 43 v' 1 = _; rw [fset_ne (by omega), f1]
  · show fset f 43 v' 2 = _; rw [fset_ne (by omega), f2]
  · show fset f 43 v' _ = _ ∧ fset f 43 v' _ = _ ∧ fset f 43 v' _ = _ ∧ fset f 43 v' _ = _ ∧ fset f 43 v' _ = _
    rw [fset_ne (by omega), fset_ne (by omega), fset_ne (by omega), fset_ne (by omega), fset_ne (by omega)]
    exact hf j hj
  · show fset f 43 v' 43 = _; exact fset_same
  · show fset f 43 v' 44 = _; rw [fset_ne (by omega), hfr.2.1]
  · show fset f 43 v' 45 = _; rw [fset_ne (by omega), hfr.2.2.1]
  · show fset f 43 v' 46 = _; rw [fset_ne (by omega), hfr.2.2.2.1]
  · show fset f 43 v' 47 = _; rw [fset_ne (by omega), hfr.2.2.2.2]
  · rw [List.range_succ, List.map_append]
    exact own_keep ho hks (fun b hb => by
      have := (own_block ho hb).1
      simp only [List.mem_singleton]; omega)
  · obtain ⟨_, h1, _⟩ := hR0.head
    obtain ⟨_, h2, _⟩ := hR0.rows
    exact hR0.keep hkl (hty h1 (by decide) (type_ne h1 hcq2 (by decide))) (hty h2 (by decide) (type_ne h2 hcq2 (by decide))) (hty hR0.data (by decide) (type_ne hR0.data hcq2 (by decide)))
  · have h1 := hSh j hj hjk
    obtain ⟨c, hc, _⟩ := id h1
    exact h1.keep hkl (hty hc (by decide) (by have := hs1 j hjk; omega))
  · have := hs1 j hj
    have := hkl.size
    omega
  · refine hkw.then hkl (fun b hb hlt => ?_)
    rcases List.mem_cons.1 hb with e | e
    · omega
    · have := (hl2 b e).1; omega
end

set_option maxHeartbeats 8000000 in
theorem spnew_at {w : World} {r fb g p pm n : Nat} (hR : RamAt w r fb g (List.range n) (List.replicate (64 * n) 0)) (hn : n ≤ 512) (hpl : p < w.heap.size ∧ pm < w.heap.size) {s : Option Addr} {zs : List Int} {cap : Nat} (hz : 0 < zs.length) (h8 : zs.length ≤ 8) (hd : DirsAt w s zs) {ua : Option Addr} {us : List Nat} {uc : Nat} (hu : UpR w ua us []) :
    Calls Try.prog 34 #[.pointer (some ⟨r, 0, none⟩), .slice s zs.length cap, .pointer (some ⟨p, 0, none⟩), .slice ua us.length uc] w fun e y => (dirsB zs n = false ∧ e = .returned (.tuple #[.pointer none, .int .i64 2]) ∧ Keep [] w y) ∨ (dirsB zs n = true ∧ NewSp r fb g p pm n zs us w e y) := by
  have hsz := hR.sz
  rw [List.length_range] at hsz
  have hn1 := hR.size.1
  rw [List.length_range] at hn1
  have C0 := Lib.hid (rsize_any hsz)
  have n0 : ¬ (64 * (n : Int) = 0) := by omega
  have n0' : ¬ (n = 0) := by omega
  obtain ⟨lb, off, rfl, hlb, hc⟩ := hd.resolve_left (by intro h; rw [h] at hz; simp at hz)
  have HC := Lib.hid hc
  have HR := Lib.hid hR
  have HU := Lib.hid hu
  have HP := Lib.hid (And.intro hpl hlb)
  have hul := hu.le
  obtain ⟨m, hm⟩ : ∃ m, m = zs.length := ⟨_, rfl⟩
  obtain ⟨ul, hul'⟩ : ∃ ul, ul = us.length := ⟨_, rfl⟩
  have HM := Lib.hid (And.intro hm hul')
  rw [← hm] at hz h8
  rw [← hul'] at hul
  rw [← hm, ← hul']
  have m0 : ((m : Int) == 0) = false := by rw [beq_eq_false_iff_ne]; omega
  have m0' : ¬ (m = 0) := by omega
  have m8 : decide ((8 : Int) < (m : Int)) = false := decide_eq_false (by omega)
  have u16 : decide ((16 : Int) < (ul : Int)) = false := decide_eq_false (by omega)
  clear hsz hR hc hu hd hpl hlb hm hul'
  go_enter Try.func34, Try.ntmps34
  go_wp2_with fail
  refine C0.out.mono ?_
  rintro e w' ⟨rfl, rfl⟩
  go_wp2_with fail
  go_loopw [11, 39] (fun dv kv wr => ∃ (k : Nat) (d : Value), dv = d ∧ kv = .int .i64 k ∧ k ≤ m ∧ Hid (∀ j (hj : j < zs.length), j < k → 0 ≤ zs[j] ∧ zs[j] ≤ 512) ∧ w = wr) (fun _ kv _ => m - (intOf kv).toNat)
  case atStart => exact ⟨0, _, rfl, rfl, by omega, Lib.hid (fun j hj q => by omega), rfl⟩
  case round =>
    obtain ⟨k, d, rfl, rfl, hk1, HJ, rfl⟩ := hrel
    by_cases hkl : k < m
    · have hkz : k < zs.length := by have := HM.out.1; omega
      have hk0 : (0 : Int) ≤ (k : Int) := by omega
      have hk3 : (k : Int) < (m : Int) := by omega
      have hc := HC.out k hkz
      obtain ⟨z, hz'⟩ : ∃ z, z = zs[k] := ⟨_, rfl⟩
      rw [← hz'] at hc
      have HZ : Hid (∃ h : k < zs.length, z = zs[k]) := Lib.hid ⟨hkz, hz'⟩
      have HLT := Lib.hid hkl
      clear hz' hkz hkl hk1
      by_cases hbad : z < 0 ∨ 512 < z
      · have HF : Hid (dirsB zs n = false) := Lib.hid (by
          obtain ⟨h, rfl⟩ := HZ.out
          have : zs.all (fun z => decide (0 ≤ z ∧ z ≤ 512)) = false := by
            rw [List.all_eq_false]
            exact ⟨_, List.getElem_mem h, by simp; omega⟩
          unfold dirsB; rw [this]; rfl)
        have hex : decide (z < 0) = true ∨ (decide (z < 0) = false ∧ decide (512 < z) = true) := by
          by_cases h : z < 0
          · exact .inl (decide_eq_true h)
          · exact .inr ⟨decide_eq_false h, decide_eq_true (by omega)⟩
        clear hbad
        rcases hex with d1 | ⟨d1, d2⟩
        all_goals
          go_wp2_with fail
          go_ret2
          exact .inl ⟨HF.out, rfl, Keep.refl _ _⟩
      · have d1 : decide (z < 0) = false := decide_eq_false (by omega)
        have d2 : decide (512 < z) = false := decide_eq_false (by omega)
        have HJ2 : Hid (∀ j (hj : j < zs.length), j < k + 1 → 0 ≤ zs[j] ∧ zs[j] ≤ 512) := Lib.hid (fun j hj q => by
          rcases (by omega : j < k ∨ j = k) with q | rfl
          · exact HJ.out j hj q
          · obtain ⟨h, rfl⟩ := HZ.out; omega)
        clear hbad HJ
        go_wp2_with fail
        go_roundw
        case rel => exact ⟨k + 1, _, rfl, by go_num, by have := HLT.out; omega, HJ2, trivial⟩
        case measure => simp [intOf]; have := HLT.out; omega
    · have hkm : k = m := by omega
      subst hkm
      have hk3 : ¬ ((k : Int) < (k : Int)) := by omega
      have HRG : Hid (∀ z ∈ zs, 0 ≤ z ∧ z ≤ 512) := Lib.hid (fun z hz => by
        obtain ⟨j, hj, rfl⟩ := List.getElem_of_mem hz
        exact HJ.out j hj (by have := HM.out.1; omega))
      clear HJ hkl hk1
      have hM := HM.out.1
      have CA := Lib.hid (apart_at (w := w) (d := lb) (o := off) (cap := cap) (zs := zs) (by omega) (by omega) HRG.out HP.out.2 HC.out)
      rw [← hM] at CA
      have HMX : Hid (∀ y, Keep [] w y → Calls Try.prog 68 #[.slice (some ⟨lb, off, none⟩) k cap] y fun e y' => e = .returned (.int .i64 (Lib.maxOf zs)) ∧ y = y') := Lib.hid (fun y hy => by
        have := Try.slices_Max_int lb off k cap zs y (by omega) (by omega) (by omega) (fun j hj => by
          rw [hy.cell (HC.out j hj) (by simp), List.getD_eq_getElem?_getD, List.getElem?_eq_getElem hj]; rfl)
        rw [List.take_of_length_le (by omega)] at this
        exact this.mono (fun e y' h => ⟨h.1, h.2.symm⟩))
      have CS : Hid (∀ y, Keep [] w y → Calls Try.prog 50 #[.pointer (some ⟨r, 0, none⟩)] y fun e y' => e = .returned (.int .u32 (64 * (n : Int))) ∧ y = y') := Lib.hid (fun y hy => by
        have := (HR.out.keep0 hy).sz
        rw [List.length_range] at this
        exact rsize_any this)
      have e1 : (64 * (n : Int)) / 64 = (n : Int) := by omega
      have e2 : (64 * (n : Int)).tdiv 64 = (n : Int) := by rw [Int.tdiv_eq_ediv_of_nonneg (by omega)]; omega
      have e3 : IntKind.i64.wrap (64 * (n : Int)) = 64 * (n : Int) := IntWalk.i64_in _ (by omega)
      have e4 : IntKind.i64.wrap ((n : Int) - 1) = (n : Int) - 1 := IntWalk.i64_in _ (by omega)
      have HB : Hid (dirsB zs n = (apartB zs && decide (Lib.maxOf zs < (n : Int) - 1))) := Lib.hid (by
        unfold dirsB
        rw [List.all_eq_true.2 (fun z hz => decide_eq_true (HRG.out z hz))]; rfl)
      generalize hap : apartB zs = ap at CA HB
      generalize hmx : Lib.maxOf zs = mx at HMX HB
      clear hap hmx hM
      go_wp2_with fail
      refine CA.out.mono ?_
      rintro e y ⟨rfl, hky⟩
      have HKY := Lib.hid hky
      clear hky
      cases ap
      · go_wp2_with fail
        go_ret2
        exact .inl ⟨HB.out, rfl, HKY.out⟩
      · go_wp2_with fail
        refine (HMX.out _ HKY.out).mono ?_
        rintro e y' ⟨rfl, rfl⟩
        by_cases hbig : (n : Int) - 1 ≤ mx
        · have d3 : decide ((n : Int) - 1 ≤ mx) = true := decide_eq_true hbig
          have HF : Hid (dirsB zs n = false) := Lib.hid (by rw [HB.out, decide_eq_false (by omega)]; rfl)
          clear hbig
          go_wp2_with fail
          refine (CS.out _ HKY.out).mono ?_
          rintro e y' ⟨rfl, rfl⟩
          go_wp2_with fail
          go_ret2
          exact .inl ⟨HF.out, rfl, HKY.out⟩
        · have d3 : decide ((n : Int) - 1 ≤ mx) = false := decide_eq_false hbig
          have HF : Hid (dirsB zs n = true) := Lib.hid (by rw [HB.out, decide_eq_true (by omega)]; rfl)
          clear hbig
          go_wp2_with fail
          refine (CS.out _ HKY.out).mono ?_
          rintro e y' ⟨rfl, rfl⟩
          go_wp2_with fail
          have CU := uclone_at (HU.out.keep HKY.out (by simp)) uc
          rw [← HM.out.2] at CU
          refine CU.mono ?_
          rintro e z ⟨ea, ec, rfl, hown, hkz⟩
          rw [← HM.out.2] at hown ⊢
          have HZ : Hid (z.ownsRow y.heap.size 22 1 (.slice ea ul ec) ul (us.map fun k => .int .u32 (k : Nat)) ∧ Keep [] w z) := Lib.hid ⟨hown, HKY.out.trans hkz⟩
          clear hown hkz CU CA HB
          go_wp2_with (refine wpList_build rfl 102 #[(0, .const (.bool true)), (1, .tmp 63), (2, .tmp 64), (6, .tmp 66)] rfl (.agg (spArr r p ea ul ec)) (by exact build_sp r p ea ul ec _) ?_)
          obtain ⟨q, hq⟩ : ∃ q, q = z.heap.size := ⟨_, rfl⟩
          rw [← hq]
          have HJ0 : Hid (NewJ r p fb g n y.heap.size zs us ea ec q 0 0 w (z.alloc (.cells (spArr r p ea ul ec) 102))) := Lib.hid (by
            have := HM.out.2
            subst this
            exact NewJ.first (HR.out.keep0 HZ.out.2) HZ.out.2 HKY.out.size HZ.out.1 hq)
          generalize hz0 : World.alloc z _ = z0
          have HJ : Hid (NewJ r p fb g n y.heap.size zs us ea ec q 0 0 w z0) := Lib.hid (by rw [← hz0]; exact HJ0.out)
          clear hz0 HJ0 hq
          go_loopw [13, 14, 15, 16, 71] (fun a1 a2 a3 a4 kv wr => ∃ (k' : Nat) (b1 b2 b3 b4 : Value), a1 = b1 ∧ a2 = b2 ∧ a3 = b3 ∧ a4 = b4 ∧ kv = .int .i64 k' ∧ k' ≤ k ∧ Hid (NewJ r p fb g n y.heap.size zs us ea ec q k' k' w wr)) (fun _ _ _ _ kv _ => k - (intOf kv).toNat)
          case atStart => exact ⟨0, _, _, _, _, rfl, rfl, rfl, rfl, rfl, by omega, HJ⟩
          case round =>
            clear HJ
            obtain ⟨k', b1, b2, b3, b4, rfl, rfl, rfl, rfl, rfl, hk1, HJ⟩ := hrel
            rename World => wo
            by_cases hkl : k' < k
            · have hkz : k' < zs.length := by have := HM.out.1; omega
              have hi0 : (0 : Int) ≤ (k' : Int) := by omega
              have hi1 : (k' : Int) < (k : Int) := by omega
              have hkw : Keep [g] w wo := by obtain ⟨_, _, _, _, _, _, _, _, _, _, _, _, h⟩ := HJ.out; exact h
              have hc0 := HC.out k' hkz
              have hcw := hkw.cell hc0 (by simpa using ram_ne HR.out hc0)
              have hdd := dirsB_dir HF.out (List.getElem_mem hkz)
              obtain ⟨d, hd⟩ : ∃ d : Nat, zs[k'] = (d : Int) := ⟨zs[k'].toNat, by omega⟩
              have hd2 : d + 2 ≤ n := by rw [hd] at hdd; simpa using hdd.2.2
              rw [hd] at hcw
              have HD : Hid (∃ h : k' < zs.length, zs[k'] = (d : Int)) := Lib.hid ⟨hkz, hd⟩
              have hRw : RamAt wo r fb g (List.range n) (List.replicate (64 * n) 0) := by obtain ⟨_, _, _, _, _, _, _, _, h, _⟩ := HJ.out; exact h
              have CN := Lib.hid (snew_good (p := p) hRw (by simp) hn hd2)
              have HLT := Lib.hid (And.intro hkl hd2)
              clear hkz hc0 hdd hd hd2 hkl hkw hRw hk1
              go_wp2_with fail
              refine CN.out.mono ?_
              rintro e x1 ⟨s, hs, rfl, hS, hR1, hK1⟩
              rw [splice_rep _ _ _ (by have := HLT.out.2; omega)] at hR1
              obtain ⟨⟨d0, d1, d2, d3', d4⟩, hfz⟩ := HJ.out.cells (by omega)
              have hqg : q ≠ g := by
                obtain ⟨_, _, _, ⟨ha, _⟩, _, _, _, _, hR0, _⟩ := HJ.out
                obtain ⟨c, hc, _⟩ := ha
                exact type_ne hc hR0.data (by decide)
              have hql : q < wo.heap.size := by
                obtain ⟨_, _, _, ⟨ha, _⟩, _⟩ := HJ.out
                exact ArrAt.lt ha
              replace d0 := hK1.cell d0 (by simpa using hqg)
              replace d1 := hK1.cell d1 (by simpa using hqg)
              replace d2 := hK1.cell d2 (by simpa using hqg)
              replace d3' := hK1.cell d3' (by simpa using hqg)
              replace d4 := hK1.cell d4 (by simpa using hqg)
              have g0 : x1.frozen? ⟨q, 3 + k' * 5, none⟩ = false := by rw [hK1.frozen hql (by simpa using hqg)]; exact hfz _
              have g1 : x1.frozen? ⟨q, 3 + k' * 5 + 1, none⟩ = false := by rw [hK1.frozen hql (by simpa using hqg)]; exact hfz _
              have g2 : x1.frozen? ⟨q, 3 + k' * 5 + 2, none⟩ = false := by rw [hK1.frozen hql (by simpa using hqg)]; exact hfz _
              have g3 : x1.frozen? ⟨q, 3 + k' * 5 + 3, none⟩ = false := by rw [hK1.frozen hql (by simpa using hqg)]; exact hfz _
              have g4 : x1.frozen? ⟨q, 3 + k' * 5 + 4, none⟩ = false := by rw [hK1.frozen hql (by simpa using hqg)]; exact hfz _
              have HPU : Hid (∀ z1, z1 = ((((x1.setCell ⟨q, 3 + k' * 5, none⟩ (.pointer (some ⟨s, 0, none⟩))).setCell ⟨q, 3 + k' * 5 + 1, none⟩ (.bool false)).setCell ⟨q, 3 + k' * 5 + 2, none⟩ (.bool false)).setCell ⟨q, 3 + k' * 5 + 3, none⟩ (.int .u32 0)).setCell ⟨q, 3 + k' * 5 + 4, none⟩ (.int .u32 0) → NewJ r p fb g n y.heap.size zs us ea ec q (k' + 1) k' w z1) := Lib.hid (fun z1 hz1 => by
                obtain ⟨hkz, hd⟩ := HD.out
                exact NewJ.put HJ.out (by have := HLT.out.1; omega) hs hkz (by rw [hd]; exact hS) hR1 hK1 hz1)
              have hi8 : (k' : Int) < 8 := by omega
              clear hfz hqg hql hS hR1 hK1 hs CN HJ
              go_upto_region 21 with fail
              generalize hz1 : World.setCell (World.setCell _ _ _) _ _ = z1
              have HN1 := Lib.hid (HPU.out z1 hz1.symm)
              clear hz1 d0 d1 d2 d3' d4 g0 g1 g2 g3 g4 HPU
              obtain ⟨av, hrow, hav⟩ : ∃ av, z1.ownsRow (q + 1) 3 1 av k' ((List.range k').map fun k => .int .i64 (k : Nat)) ∧ z1.cell? ⟨q, 43, none⟩ = some av := by
                obtain ⟨_, f, av, ⟨ha, _⟩, _, _, hf, hr, _⟩ := HN1.out
                exact ⟨av, hr, by rw [ArrAt.cell ha (by omega), hf.1]⟩
              have hqz : q < z1.heap.size := by
                obtain ⟨_, _, _, ⟨ha, _⟩, _⟩ := HN1.out
                exact ArrAt.lt ha
              obtain ⟨la, lc, rfl⟩ := own_form hrow
              have HAP : Hid (∀ v' w3, w3.ownsRow (q + 1) 3 1 v' (k' + 1) ((List.range k').map (fun k => .int .i64 (k : Nat)) ++ [.int .i64 k']) → (z1.alloc (.cells #[.int .i64 k'] 3)).grownBy w3 (Value.slice la k' lc).ownBlock → (∃ u, w3.cell? ⟨q, 43, none⟩ = some u ∧ w3.frozen? ⟨q, 43, none⟩ = false) ∧ NewJ r p fb g n y.heap.size zs us ea ec q (k' + 1) (k' + 1) w (w3.setCell ⟨q, 43, none⟩ v')) := Lib.hid (fun v' w3 ho hgr => NewJ.app HN1.out hav ho hgr)
              have hk9 : k' ≤ 8 := by omega
              obtain ⟨j0, hj0, hy0, hy1, hy2⟩ := info_parts info_int'
              go_wp2_with (at_builtin; refine wpList_append_own _ rfl _ _ 81 rfl (q + 1) 3 j0 (.int .i64 0) 1 8 Try.underlying81 hj0 hy0 hy1 hy2 rfl (by decide) _ _ _ rfl (hrow.alloc _) ⟨z1.heap.size, 0, none⟩ 1 1 [.int .i64 k'] rfl rfl (cell_one_new _ _ _) (by simp [Value.oneCell']) (by unfold maxLen; omega) (by omega) (by simp; omega) ?_; intro v' w3 hown' hgrow _; have HG3 := HAP.out v' w3 hown' hgrow; have hfm := own_form hown'; obtain ⟨la3, lc3, hv⟩ := hfm; subst hv; obtain ⟨⟨u0, g0, g1⟩, HG3⟩ := HG3; have HG3 := Lib.hid HG3; clear hown' hgrow)
              go_roundw
              case rel => exact ⟨k' + 1, _, _, _, _, rfl, rfl, rfl, rfl, by go_num, by have := HLT.out.1; omega, HG3⟩
              case measure => simp [intOf]; have := HLT.out.1; omega
            · have hkk : k' = k := by omega
              have hi3 : ¬ ((k' : Int) < (k : Int)) := by omega
              have HFN : Hid (NewSp r fb g p pm n zs us w (.returned (.tuple #[.pointer (some ⟨q, 0, none⟩), .int .i64 0])) wo) := Lib.hid (by
                have hkz : k = zs.length := HM.out.1
                rw [hkk, hkz] at HJ
                obtain ⟨sh, f, av, ⟨ha, hq⟩, ⟨f0, f1, f2⟩, hf, hfr, hrow, hR0, hSh, ⟨hs1, hs2⟩, ⟨hB, hu, hub⟩, hkw⟩ := HJ.out
                obtain ⟨la, lc, rfl⟩ := own_form hrow
                obtain ⟨ga, rfl, -⟩ := own_some hrow (by omega)
                have hgb := own_block hrow (g := ga) rfl
                obtain ⟨cg, hcg⟩ := own_type hrow (g := ga) rfl
                obtain ⟨cq, hcq, -⟩ := id ha
                have hql := ArrAt.lt ha
                obtain ⟨_, h1, _⟩ := hR0.head
                obtain ⟨_, h2, _⟩ := hR0.rows
                have hp1 := HP.out.1.1
                have hp2 := HP.out.1.2
                obtain ⟨_, h1', _⟩ := HR.out.head
                obtain ⟨_, h2', _⟩ := HR.out.rows
                have l1 := lt_of_heap h1'
                have l2 := lt_of_heap h2'
                have l3 := lt_of_heap HR.out.data
                refine ⟨q, sh, f, ga, lc, ea, ec, rfl, ⟨ha, f0, f1, f2, fun j hj => (hf j hj).1, fun j hj => (hf j hj).2.1, fun j hj => (hf j hj).2.2.1, fun j hj => (hf j hj).2.2.2.1, fun j hj => (hf j hj).2.2.2.2, hfr.1, hfr.2.1, hfr.2.2.1, hfr.2.2.2.1, hfr.2.2.2.2, own_lower hrow (Nat.zero_le _), ⟨HU.out.le, HU.out.lt, ?_⟩, List.nodup_range, fun j hj => List.mem_range.1 hj, by simp, by omega, fun _ _ => rfl, ⟨?_, fun o ho => ?_⟩, fun b hb => ?_⟩, fun j hj => hSh j hj hj, hR0, ⟨⟨hq, by omega⟩, fun j hj => (hs1 j hj).1, hs2, fun b o hb => by have := hub b o hb; omega⟩, hkw⟩
                · by_cases hus : us = []
                  · exact .inl hus
                  · right
                    obtain ⟨b, rfl, hcell⟩ := own_some hu (by have := List.length_pos_iff.2 hus; omega)
                    refine ⟨b, 0, rfl, fun hm => ?_, fun j hj => ?_⟩
                    · have hbB := (own_block hu (g := b) rfl).1
                      have hbq := hub b 0 rfl
                      simp only [qNb, List.mem_cons, List.mem_map, List.mem_range] at hm
                      rcases hm with e | e | e | e | e | e | ⟨j, hj, e⟩
                      · omega
                      · omega
                      · omega
                      · omega
                      · omega
                      · omega
                      · have := (hs1 j hj).1; omega
                    · rw [Nat.zero_add, hcell j (by omega), List.getElem?_map, List.getElem?_eq_getElem hj]
                      rfl
                · simp only [qNb, List.mem_cons, List.mem_map, List.mem_range, not_or, not_exists, not_and]
                  refine ⟨by omega, by omega, by omega, by omega, by omega, by omega, fun j hj e => ?_⟩
                  obtain ⟨c2, hc2, -⟩ := hSh j hj hj
                  exact type_ne hc2 hcg (by decide) e
                · have := hub ga o ho; omega
                · have := hkw.size
                  simp only [qNb, List.mem_cons, List.mem_map, List.mem_range] at hb
                  rcases hb with e | e | e | e | e | e | ⟨j, hj, e⟩
                  · omega
                  · omega
                  · omega
                  · omega
                  · omega
                  · omega
                  · have := (hs1 j hj).2; omega)
              clear HJ hkl hk1
              go_wp2_with fail
              go_ret2
              exact .inr ⟨HF.out, HFN.out⟩
end Go.Proofs.Ytpinoejckagjbaa
