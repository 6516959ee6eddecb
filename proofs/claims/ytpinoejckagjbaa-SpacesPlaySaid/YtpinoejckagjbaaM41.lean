/- Contracts of the functions that the law reaches, walked, and the plain laws on them (several texts in one). -/
import Derived.Sort.OwnSortedInts
import Derived.Lib.OwnBridge
import Derived.Test.YtpinoejckagjbaaM40

/- The program's spaces: all freed. -/
namespace Go.Proofs.Ytpinoejckagjbaa
open Go.RowKit Go.Mum
set_option linter.unusedVariables false
set_option linter.unusedSimpArgs false
set_option maxRecDepth 100000

/-- A space that nobody has. -/
def QSt.drop (A : QSt) (n : Nat) : QSt := { tk := updN A.tk n false, us := A.us, kp := updN A.kp n 0, kr := updN A.kr n 0 }

theorem QAt.drop {x y : World} {q r fb g p pm ns : Nat} {sh : Nat → Nat} {A : QSt} {age : List Nat} {use : Bool} {kept lost : Nat} {f : Nat → Value} {ga gc : Nat} {ea : Option Addr} {ec : Nat} (h : QAt x q r fb g p pm ns sh A age use kept lost f ga gc ea ec) {n : Nat} (hn : n < ns)
    (hy : y = ((x.setCell ⟨q, 3 + n * 5 + 1, none⟩ (.bool false)).setCell ⟨q, 3 + n * 5 + 3, none⟩ (.int .u32 0)).setCell ⟨q, 3 + n * 5 + 3 + 1, none⟩ (.int .u32 0)) : ∃ f', QAt y q r fb g p pm ns sh (A.drop n) age use kept lost f' ga gc ea ec ∧ Keep [q] x y := by
  have hk : Keep [q] x y := by rw [hy]; exact keepSet (keepSet (keepSet (Keep.refl _ _) (by simp) _ _) (by simp) _ _) (by simp) _ _
  have h8 := h.ns8
  have ha : ArrAt y q 102 48 (fset (fset (fset f (3 + n * 5 + 1) (.bool false)) (3 + n * 5 + 3) (.int .u32 0)) (3 + n * 5 + 3 + 1) (.int .u32 0)) := by
    rw [hy]; exact ArrAt.set (ArrAt.set (ArrAt.set h.arr _ _) _ _) _ _
  have hne : ∀ j, j ≠ 3 + n * 5 + 1 → j ≠ 3 + n * 5 + 3 → j ≠ 3 + n * 5 + 4 → fset (fset (fset f (3 + n * 5 + 1) (.bool false)) (3 + n * 5 + 3) (.int .u32 0)) (3 + n * 5 + 3 + 1) (.int .u32 0) j = f j := fun j h1 h3 h4 => by rw [fset_ne (by omega), fset_ne h3, fset_ne h1]
  refine ⟨_, h.upd hk ha (A' := A.drop n) (fun j hj => hne j (by omega) (by omega) (by omega)) (fun k hk8 => hne _ (by omega) (by omega) (by omega)) (fun k hk8 => ?_) (fun k hk8 => ?_) (fun k hk8 => ?_) (fun k hk8 => ?_) (hne _ (by omega) (by omega) (by omega)) (by rw [hne _ (by omega) (by omega) (by omega), h.vuse]) (hne _ (by omega) (by omega) (by omega)) (by rw [hne _ (by omega) (by omega) (by omega), h.vk]) (by rw [hne _ (by omega) (by omega) (by omega), h.vl]) (fun k hk8 => ?_), hk⟩
  · show _ = Value.bool (updN A.tk n false k)
    by_cases hkn : k = n
    · subst hkn; rw [updN_same, fset_ne (by omega), fset_ne (by omega), fset_same]
    · rw [updN_ne hkn, hne _ (by omega) (by omega) (by omega), h.vt k hk8]
  · show _ = Value.bool (A.us k)
    rw [hne _ (by omega) (by omega) (by omega), h.vu k hk8]
  · show _ = Value.int .u32 (updN A.kp n 0 k : Nat)
    by_cases hkn : k = n
    · subst hkn; rw [updN_same, fset_ne (by omega), fset_same]; rfl
    · rw [updN_ne hkn, hne _ (by omega) (by omega) (by omega), h.vp k hk8]
  · show _ = Value.int .u32 (updN A.kr n 0 k : Nat)
    by_cases hkn : k = n
    · subst hkn; rw [updN_same, show 3 + k * 5 + 4 = 3 + k * 5 + 3 + 1 by omega, fset_same]; rfl
    · rw [updN_ne hkn, hne _ (by omega) (by omega) (by omega), h.vr k hk8]
  · show updN A.tk n false k = false
    rw [updN_ne (by omega), h.free k hk8]

/-- The first spaces are freed. -/
def QSt.bare (A : QSt) (ns k : Nat) : QSt := { tk := fun m => if m < k ∧ m < ns then false else A.tk m, us := A.us, kp := fun m => if m < k ∧ m < ns then 0 else A.kp m, kr := fun m => if m < k ∧ m < ns then 0 else A.kr m }
def bareT (T : Nat → Nat → Tab) (ns k : Nat) : Nat → Nat → Tab := fun m => if m < k ∧ m < ns then (fun _ => tab0) else T m

theorem bareT_zero (T : Nat → Nat → Tab) (ns : Nat) : bareT T ns 0 = T := by
  funext m; exact if_neg (by omega)
theorem bare_zero (A : QSt) (ns : Nat) : A.bare ns 0 = A := by
  have h1 : ∀ {α : Type} (a : α) (F : Nat → α), (fun m => if m < 0 ∧ m < ns then a else F m) = F := fun a F => by funext m; exact if_neg (by omega)
  show QSt.mk _ _ _ _ = A
  rw [h1, h1, h1]
theorem upd_bare {α : Type} (a : α) (F : Nat → α) {ns k : Nat} (hk : k < ns) : updN (fun m => if m < k ∧ m < ns then a else F m) k a = fun m => if m < k + 1 ∧ m < ns then a else F m := by
  funext m
  by_cases h : m = k
  · subst h; rw [updN_same, if_pos (by omega)]
  · rw [updN_ne h]
    by_cases h2 : m < k ∧ m < ns
    · rw [if_pos h2, if_pos (by omega)]
    · rw [if_neg h2, if_neg (by omega)]
theorem bare_succ (A : QSt) {ns k : Nat} (hk : k < ns) : (A.bare ns k).drop k = A.bare ns (k + 1) := by
  show QSt.mk _ _ _ _ = QSt.mk _ _ _ _
  rw [show (A.bare ns k).tk = fun m => if m < k ∧ m < ns then false else A.tk m from rfl, show (A.bare ns k).kp = fun m => if m < k ∧ m < ns then 0 else A.kp m from rfl, show (A.bare ns k).kr = fun m => if m < k ∧ m < ns then 0 else A.kr m from rfl, upd_bare _ _ hk, upd_bare _ _ hk, upd_bare _ _ hk]
  rfl
theorem bareT_succ (T : Nat → Nat → Tab) {ns k : Nat} (hk : k < ns) : setSh (bareT T ns k) k (fun _ => tab0) = bareT T ns (k + 1) := upd_bare _ _ hk
theorem bare_over {α : Type} (a : α) (F : Nat → α) {ns k : Nat} (hk : ns ≤ k) : (fun m => if m < k + 1 ∧ m < ns then a else F m) = fun m => if m < k ∧ m < ns then a else F m := by
  funext m
  by_cases h2 : m < k ∧ m < ns
  · rw [if_pos h2, if_pos (by omega)]
  · rw [if_neg h2, if_neg (by omega)]
theorem bareA_over (A : QSt) {ns k : Nat} (hk : ns ≤ k) : A.bare ns (k + 1) = A.bare ns k := by
  show QSt.mk _ _ _ _ = QSt.mk _ _ _ _
  rw [bare_over _ _ hk, bare_over _ _ hk, bare_over _ _ hk]
theorem bareT_over (T : Nat → Nat → Tab) {ns k : Nat} (hk : ns ≤ k) : bareT T ns (k + 1) = bareT T ns k := bare_over _ _ hk

theorem sort_range {age : List Nat} {ns : Nat} (hn : age.Nodup) (hl : age.length = ns) (hlt : ∀ k ∈ age, k < ns) : (age.map fun k : Nat => (k : Int)).mergeSort (fun x y => decide (x ≤ y)) = (List.range ns).map fun k : Nat => (k : Int) := by
  have hp : age.Perm (List.range ns) := (List.perm_ext_iff_of_nodup hn List.nodup_range).2 (fun a => ⟨fun h => List.mem_range.2 (hlt a h), fun h => mem_age hn hl hlt (List.mem_range.1 h)⟩)
  refine List.Perm.eq_of_pairwise (le := fun a b => decide (a ≤ b) = true) (fun a b _ _ h1 h2 => ?_) (List.pairwise_mergeSort (fun a b c h1 h2 => ?_) (fun a b => ?_) _) ?_ ((List.mergeSort_perm _ _).trans (hp.map _))
  · simp only [decide_eq_true_eq] at h1 h2; omega
  · simp only [decide_eq_true_eq] at h1 h2 ⊢; omega
  · simp only [Bool.or_eq_true, decide_eq_true_eq]; omega
  · rw [List.pairwise_map]
    exact List.pairwise_le_range.imp (fun h => by simpa using h)

theorem QAt.sorted {x y : World} {q r fb g p pm ns : Nat} {sh : Nat → Nat} {A : QSt} {age : List Nat} {use : Bool} {kept lost : Nat} {f : Nat → Value} {ga gc : Nat} {ea : Option Addr} {ec : Nat} (h : QAt x q r fb g p pm ns sh A age use kept lost f ga gc ea ec) (hk : Keep [ga] x y) (hr : y.ownsRow 0 3 1 (.slice (some ⟨ga, 0, none⟩) ns gc) ns ((List.range ns).map fun k => .int .i64 (k : Nat))) : QAt y q r fb g p pm ns sh A (List.range ns) use kept lost f ga gc ea ec := by
  have hqn : q ∈ qNb q r fb g p pm ns sh := by simp [qNb]
  have hga : q ≠ ga := fun e => h.apart.1 (by rw [← e]; exact hqn)
  refine ⟨ArrAt.keep h.arr hk (by simpa using hga), h.v0, h.v1, h.v2, h.vs, h.vt, h.vu, h.vp, h.vr, h.va, h.vuse, h.vup, h.vk, h.vl, hr, ⟨h.up.le, h.up.lt, ?_⟩, List.nodup_range, fun k hk => List.mem_range.1 hk, by simp, h.ns8, h.free, h.apart, fun k hkm => Nat.lt_of_lt_of_le (h.ltb k hkm) hk.size⟩
  rcases h.up.row with h3 | ⟨b, o, h3, h4, h5⟩
  · exact .inl h3
  · refine .inr ⟨b, o, h3, h4, fun j hj => hk.cell (h5 j hj) ?_⟩
    simp only [List.mem_singleton]
    rintro rfl
    exact h.apart.2 o h3

theorem QAt.setU {x : World} {q r fb g p pm ns : Nat} {sh : Nat → Nat} {A : QSt} {age : List Nat} {use : Bool} {kept lost : Nat} {f : Nat → Value} {ga gc : Nat} {ea : Option Addr} {ec : Nat} (h : QAt x q r fb g p pm ns sh A age use kept lost f ga gc ea ec) (b : Bool) : QAt (x.setCell ⟨q, 44, none⟩ (.bool b)) q r fb g p pm ns sh A age b kept lost (fset f 44 (.bool b)) ga gc ea ec :=
  h.upd (f' := fset f 44 (.bool b)) (keepSet (Keep.refl _ _) (by simp) _ _) (ArrAt.set h.arr _ _) (fun j hj => fset_ne (by omega)) (fun k hk => fset_ne (by omega)) (fun k hk => by rw [fset_ne (by omega), h.vt k hk]) (fun k hk => by rw [fset_ne (by omega), h.vu k hk]) (fun k hk => by rw [fset_ne (by omega), h.vp k hk]) (fun k hk => by rw [fset_ne (by omega), h.vr k hk]) (fset_ne (by omega)) fset_same (fset_ne (by omega)) (by rw [fset_ne (by omega), h.vk]) (by rw [fset_ne (by omega), h.vl]) h.free

def SClr (V : Nat → Prop) (q r fb g p pm most ns : Nat) (sh : Nat → Nat) (T : Nat → Nat → Tab) (up : Nat → Bool) (c : Nat) (A : QSt) (kept lost : Nat) (ga gc : Nat) (ea : Option Addr) (ec : Nat) (x y : World) : Prop :=
  SpX V y q r fb g p pm most ns sh (bareT T ns 8) up c (A.bare ns 8) (List.range ns) false kept lost ga gc ea ec ∧ Keep (pwl q ga g p pm ns sh) x y

section
variable {x y : World} {q r fb g p pm most ns : Nat} {sh : Nat → Nat} {uv : Nat → Value} {T : Nat → Nat → Tab} {up : Nat → Bool} {L lent : List Int} {c : Nat} {A : QSt} {age : List Nat} {use : Bool} {kept lost : Nat} {f : Nat → Value} {ga gc : Nat} {ea : Option Addr} {ec : Nat}

set_option maxHeartbeats 8000000 in
theorem spclear_at (h : SpAt x q r fb g p pm most ns sh uv T up L lent c A age use kept lost f ga gc ea ec) :
    Calls Try.prog 42 #[.pointer (some ⟨q, 0, none⟩)] x fun e y => (∃ v, e = .returned v) ∧ SClr (UvIn uv up ns) q r fb g p pm most ns sh T up c A kept lost ga gc ea ec x y := by
  have HS := Lib.hid h
  clear h
  go_enter Try.func42, Try.ntmps42
  go_wp2_with fail
  refine (none_at HS.out.qq.cells.1).mono ?_
  rintro e y ⟨rfl, rfl⟩
  go_wp2_with fail
  go_loopw [5] (fun kv wr => ∃ k : Nat, kv = .int .i64 k ∧ k ≤ 8 ∧ Hid (SpX (UvIn uv up ns) wr q r fb g p pm most ns sh (bareT T ns k) up c (A.bare ns k) age use kept lost ga gc ea ec ∧ Keep (pwl q ga g p pm ns sh) x wr)) (fun kv _ => 8 - (intOf kv).toNat)
  case atStart => exact ⟨0, rfl, by omega, Lib.hid ⟨by rw [bareT_zero, bare_zero]; exact ⟨_, _, _, _, HS.out, UvV.self _ _ _⟩, Keep.refl _ _⟩⟩
  case round =>
    obtain ⟨k, rfl, hk1, HJ⟩ := hrel
    rename World => wo
    by_cases hkl : k < 8
    · have hk0 : (0 : Int) ≤ (k : Int) := by omega
      have hk3 : (k : Int) < 8 := by omega
      obtain ⟨uv', L', lent', f', hJ, hUV⟩ := HJ.out.1
      have HUV := Lib.hid hUV
      clear hUV
      have HW := Lib.hid hJ
      obtain ⟨q0, -⟩ := hJ.qq.space hkl
      have HLT := Lib.hid hkl
      clear hJ
      by_cases hkn : k < ns
      · rw [if_pos hkn] at q0
        have HKN := Lib.hid hkn
        have CC := Lib.hid (mclear_at HW.out.m hkn)
        clear hkn hkl hk1
        go_wp2_with fail
        refine CC.out.mono ?_
        rintro e wl ⟨⟨vl, rfl⟩, HCL⟩
        obtain ⟨L4, lent4, hM4, hK4⟩ := HCL.out
        have HS4 := Lib.hid (HW.out.shad HKN.out hK4 hM4)
        have HK4 := Lib.hid hK4
        clear hM4 hK4 HCL CC q0
        go_wp2_with fail
        refine wp_region_held_drew (S := fun _ => True) (by kernel_rfl) trivial (fun hHeld => ?_)
        skip
        generalize hz2 : World.drew wl = z2 at hHeld ⊢
        have HZ2 : Hid (Keep [] wl z2) := Lib.hid (by subst hz2; exact (Keep.refl [] wl).drew)
        clear hz2
        have HQ2 := Lib.hid (HS4.out.keep0 HZ2.out)
        obtain ⟨q0, q1, q2, q3, q4⟩ := HQ2.out.qq.space HLT.out
        have g1 := ArrAt.frozen HQ2.out.qq.arr (3 + k * 5 + 1)
        have g3 := ArrAt.frozen HQ2.out.qq.arr (3 + k * 5 + 3)
        have g4 := ArrAt.frozen HQ2.out.qq.arr (3 + k * 5 + 4)
        refine wpAnyH_take (i := 0) (oi := { dst := some 24, op := Op.move (Operand.tmp 0), type := 75, pos := "spaces.go:160", after := #[], guard := none }) (v := ?_) rfl (by kernel_rfl) (by kernel_rfl) (by kernel_rfl) (fun _ _ _ h => h) (Or.inl ⟨by rfl, ?_⟩) (by assumption) ?_
        rotate_left
        focus (intro w hSw; (try dsimp only at hSw); go_simp <;> with_reducible rfl)
        try simp only [Act.put, List.setIfInBounds_toArray, List.set_cons_zero, List.set_cons_succ]
        refine wpAnyH_take (i := 1) (oi := { dst := some 25, op := Op.move (Operand.tmp 2), type := 3, pos := "spaces.go:160", after := #[], guard := none }) (v := ?_) rfl (by kernel_rfl) (by kernel_rfl) (by kernel_rfl) (fun _ _ _ h => h) (Or.inl ⟨by rfl, ?_⟩) (by assumption) ?_
        rotate_left
        focus (intro w hSw; (try dsimp only at hSw); go_simp <;> with_reducible rfl)
        try simp only [Act.put, List.setIfInBounds_toArray, List.set_cons_zero, List.set_cons_succ]
        refine wpAnyH_take (i := 2) (oi := { dst := some 26, op := Op.move (Operand.tmp 0), type := 75, pos := "spaces.go:160", after := #[{ on := 9, ground := Ground.gcOnly Departure.lateStores }], guard := none }) (v := ?_) rfl (by kernel_rfl) (by kernel_rfl) (by kernel_rfl) (fun _ _ _ h => h) (Or.inl ⟨by rfl, ?_⟩) (by assumption) ?_
        rotate_left
        focus (intro w hSw; (try dsimp only at hSw); go_simp <;> with_reducible rfl)
        try simp only [Act.put, List.setIfInBounds_toArray, List.set_cons_zero, List.set_cons_succ]
        refine wpAnyH_take (i := 3) (oi := { dst := some 27, op := Op.move (Operand.tmp 2), type := 3, pos := "spaces.go:160", after := #[{ on := 9, ground := Ground.gcOnly Departure.lateStores }], guard := none }) (v := ?_) rfl (by kernel_rfl) (by kernel_rfl) (by kernel_rfl) (fun _ _ _ h => h) (Or.inl ⟨by rfl, ?_⟩) (by assumption) ?_
        rotate_left
        focus (intro w hSw; (try dsimp only at hSw); go_simp <;> with_reducible rfl)
        try simp only [Act.put, List.setIfInBounds_toArray, List.set_cons_zero, List.set_cons_succ]
        refine wpAnyH_take (i := 4) (oi := { dst := some 28, op := Op.build 70 #[], type := 70, pos := "spaces.go:160", after := #[], guard := none }) (v := ?_) rfl (by kernel_rfl) (by kernel_rfl) (by kernel_rfl) (fun _ _ _ h => h) (Or.inl ⟨by rfl, ?_⟩) (by assumption) ?_
        rotate_left
        focus (intro w hSw; (try dsimp only at hSw); go_simp <;> with_reducible rfl)
        try simp only [Act.put, List.setIfInBounds_toArray, List.set_cons_zero, List.set_cons_succ]
        refine wpAnyH_take (i := 5) (oi := { dst := some 29, op := Op.nilCheck (Operand.tmp 24), type := 0, pos := "spaces.go:160", after := #[{ on := 0, ground := Ground.data }], guard := none }) (v := ?_) rfl (by kernel_rfl) (by kernel_rfl) (by kernel_rfl) (fun _ _ _ h => h) (Or.inl ⟨by rfl, ?_⟩) (by assumption) ?_
        rotate_left
        focus (intro w hSw; (try dsimp only at hSw); go_simp <;> with_reducible rfl)
        try simp only [Act.put, List.setIfInBounds_toArray, List.set_cons_zero, List.set_cons_succ]
        refine wpAnyH_take (i := 6) (oi := { dst := some 30, op := Op.fieldAddr 102 (Operand.tmp 29) 3, type := 0, pos := "spaces.go:160", after := #[{ on := 5, ground := Ground.data }], guard := none }) (v := ?_) rfl (by kernel_rfl) (by kernel_rfl) (by kernel_rfl) (fun _ _ _ h => h) (Or.inl ⟨by rfl, ?_⟩) (by assumption) ?_
        rotate_left
        focus (intro w hSw; (try dsimp only at hSw); go_simp <;> with_reducible rfl)
        try simp only [Act.put, List.setIfInBounds_toArray, List.set_cons_zero, List.set_cons_succ]
        refine wpAnyH_take (i := 7) (oi := { dst := some 31, op := Op.indexAddr 95 (Operand.tmp 30) (Operand.tmp 25), type := 0, pos := "spaces.go:160", after := #[{ on := 6, ground := Ground.data }, { on := 1, ground := Ground.data }, { on := 0, ground := Ground.phase }, { on := 1, ground := Ground.phase }, { on := 2, ground := Ground.textOnly Departure.lateStores }, { on := 3, ground := Ground.textOnly Departure.lateStores }, { on := 4, ground := Ground.textOnly Departure.lateStoresUnsure }], guard := none }) (v := ?_) rfl (by kernel_rfl) (by kernel_rfl) (by kernel_rfl) (fun _ _ _ h => h) (Or.inl ⟨by rfl, ?_⟩) (by assumption) ?_
        rotate_left
        focus (intro w hSw; (try dsimp only at hSw); go_simp <;> with_reducible rfl)
        try simp only [Act.put, List.setIfInBounds_toArray, List.set_cons_zero, List.set_cons_succ]
        refine wpAnyH_take (i := 8) (oi := { dst := some 32, op := Op.fieldAddr 94 (Operand.tmp 31) 1, type := 0, pos := "spaces.go:160", after := #[{ on := 7, ground := Ground.data }, { on := 0, ground := Ground.phase }, { on := 1, ground := Ground.phase }, { on := 2, ground := Ground.textOnly Departure.lateStores }, { on := 3, ground := Ground.textOnly Departure.lateStores }, { on := 4, ground := Ground.textOnly Departure.lateStoresUnsure }], guard := none }) (v := ?_) rfl (by kernel_rfl) (by kernel_rfl) (by kernel_rfl) (fun _ _ _ h => h) (Or.inl ⟨by rfl, ?_⟩) (by assumption) ?_
        rotate_left
        focus (intro w hSw; (try dsimp only at hSw); go_simp <;> with_reducible rfl)
        try simp only [Act.put, List.setIfInBounds_toArray, List.set_cons_zero, List.set_cons_succ]
        refine wpAnyH_take (i := 10) (oi := { dst := some 33, op := Op.nilCheck (Operand.tmp 26), type := 0, pos := "spaces.go:160", after := #[{ on := 2, ground := Ground.data }], guard := none }) (v := ?_) rfl (by kernel_rfl) (by kernel_rfl) (by kernel_rfl) (fun _ _ _ h => h) (Or.inl ⟨by rfl, ?_⟩) (by assumption) ?_
        rotate_left
        focus (intro w hSw; (try dsimp only at hSw); go_simp <;> with_reducible rfl)
        try simp only [Act.put, List.setIfInBounds_toArray, List.set_cons_zero, List.set_cons_succ]
        refine wpAnyH_take (i := 11) (oi := { dst := some 34, op := Op.fieldAddr 102 (Operand.tmp 33) 3, type := 0, pos := "spaces.go:160", after := #[{ on := 10, ground := Ground.data }], guard := none }) (v := ?_) rfl (by kernel_rfl) (by kernel_rfl) (by kernel_rfl) (fun _ _ _ h => h) (Or.inl ⟨by rfl, ?_⟩) (by assumption) ?_
        rotate_left
        focus (intro w hSw; (try dsimp only at hSw); go_simp <;> with_reducible rfl)
        try simp only [Act.put, List.setIfInBounds_toArray, List.set_cons_zero, List.set_cons_succ]
        refine wpAnyH_ready (rs := [9]) (by kernel_rfl) (by simp) ?_
        refine AllReadyH.cons (o := { dst := none, op := Op.store 4 (Operand.tmp 32) (Operand.const (Value.bool false)), type := 0, pos := "spaces.go:160", after := #[{ on := 8, ground := Ground.data }, { on := 0, ground := Ground.phase }, { on := 1, ground := Ground.phase }, { on := 2, ground := Ground.textOnly Departure.lateStores }, { on := 3, ground := Ground.textOnly Departure.lateStores }, { on := 4, ground := Ground.textOnly Departure.lateStoresUnsure }], guard := none }) rfl (fun K hK => ?_) AllReadyH.nil
        go_simp
        generalize hz3 : World.setCell z2 _ _ = z3
        have q3' : z3.cell? ⟨q, 3 + k * 5 + 3, none⟩ = some (.int .u32 ((A.bare ns k).kp k : Nat)) := by rw [← hz3]; exact cell_far (by omega) q3
        have q4' : z3.cell? ⟨q, 3 + k * 5 + 3 + 1, none⟩ = some (.int .u32 ((A.bare ns k).kr k : Nat)) := by rw [← hz3]; exact cell_far (by omega) q4
        have g3' : z3.frozen? ⟨q, 3 + k * 5 + 3, none⟩ = false := by rw [← hz3]; simpa using g3
        have g4' : z3.frozen? ⟨q, 3 + k * 5 + 3 + 1, none⟩ = false := by rw [← hz3]; simpa using g4
        have HZ3 : Hid (z3 = z2.setCell ⟨q, 3 + k * 5 + 1, none⟩ (.bool false)) := Lib.hid hz3.symm
        clear hz3 q1 q2 q3 q4 g1 g3 g4 q0 hHeld
        refine shut_grow (fun _ => True) hK (fun _ h => h) trivial (fun hHeld => ?_)
        clear hK K
        refine wpAnyH_take (i := 12) (oi := { dst := some 35, op := Op.indexAddr 95 (Operand.tmp 34) (Operand.tmp 27), type := 0, pos := "spaces.go:160", after := #[{ on := 11, ground := Ground.data }, { on := 3, ground := Ground.data }, { on := 0, ground := Ground.phase }, { on := 1, ground := Ground.phase }, { on := 2, ground := Ground.phase }, { on := 3, ground := Ground.phase }, { on := 4, ground := Ground.phase }, { on := 5, ground := Ground.phase }, { on := 6, ground := Ground.phase }, { on := 7, ground := Ground.phase }, { on := 8, ground := Ground.phase }, { on := 9, ground := Ground.phase }], guard := none }) (v := ?_) rfl (by kernel_rfl) (by kernel_rfl) (by kernel_rfl) (fun _ _ _ h => h) (Or.inl ⟨by rfl, ?_⟩) (by assumption) ?_
        rotate_left
        focus (intro w hSw; (try dsimp only at hSw); go_simp <;> with_reducible rfl)
        try simp only [Act.put, List.setIfInBounds_toArray, List.set_cons_zero, List.set_cons_succ]
        refine wpAnyH_take (i := 13) (oi := { dst := some 36, op := Op.fieldAddr 94 (Operand.tmp 35) 3, type := 0, pos := "spaces.go:160", after := #[{ on := 12, ground := Ground.data }, { on := 0, ground := Ground.phase }, { on := 1, ground := Ground.phase }, { on := 2, ground := Ground.phase }, { on := 3, ground := Ground.phase }, { on := 4, ground := Ground.phase }, { on := 5, ground := Ground.phase }, { on := 6, ground := Ground.phase }, { on := 7, ground := Ground.phase }, { on := 8, ground := Ground.phase }, { on := 9, ground := Ground.phase }], guard := none }) (v := ?_) rfl (by kernel_rfl) (by kernel_rfl) (by kernel_rfl) (fun _ _ _ h => h) (Or.inl ⟨by rfl, ?_⟩) (by assumption) ?_
        rotate_left
        focus (intro w hSw; (try dsimp only at hSw); go_simp <;> with_reducible rfl)
        try simp only [Act.put, List.setIfInBounds_toArray, List.set_cons_zero, List.set_cons_succ]
        refine wpAnyH_ready (rs := [14]) (by kernel_rfl) (by simp) ?_
        refine AllReadyH.cons (o := { dst := none, op := Op.store 70 (Operand.tmp 36) (Operand.tmp 28), type := 0, pos := "spaces.go:160", after := #[{ on := 13, ground := Ground.data }, { on := 4, ground := Ground.data }, { on := 9, ground := Ground.chain }, { on := 0, ground := Ground.phase }, { on := 1, ground := Ground.phase }, { on := 2, ground := Ground.phase }, { on := 3, ground := Ground.phase }, { on := 4, ground := Ground.phase }, { on := 5, ground := Ground.phase }, { on := 6, ground := Ground.phase }, { on := 7, ground := Ground.phase }, { on := 8, ground := Ground.phase }, { on := 9, ground := Ground.phase }], guard := none }) rfl (fun K hK => ?_) AllReadyH.nil
        go_simp
        generalize hz4 : World.setCell (World.setCell z3 _ _) _ _ = z4
        have HZ4 : Hid (∃ f'', QAt z4 q r fb g p pm ns sh ((A.bare ns k).drop k) age use kept lost f'' ga gc ea ec ∧ Keep [q] z2 z4) := Lib.hid (HQ2.out.qq.drop HKN.out (by rw [← hz4, HZ3.out]))
        clear hz4 q3' q4' g3' g4' hHeld
        refine shut_grow (fun _ => True) hK (fun _ h => h) trivial (fun hHeld => ?_)
        clear hK K
        refine wpAnyH_done (by kernel_rfl) ?_ _
        clear hHeld
        have HNX : Hid (SpX (UvIn uv up ns) z4 q r fb g p pm most ns sh (bareT T ns (k + 1)) up c (A.bare ns (k + 1)) age use kept lost ga gc ea ec ∧ Keep (pwl q ga g p pm ns sh) x z4) := Lib.hid (by
          obtain ⟨f5, hQ5, hK5⟩ := HZ4.out
          have hM5 := HQ2.out.own (fun j hj => by simp at hj; exact .inl hj) hK5
          rw [bareT_succ T HKN.out] at hM5
          rw [bare_succ A HKN.out] at hQ5
          refine ⟨⟨_, _, _, _, ⟨hM5, hQ5, HW.out.us, HW.out.nq, HW.out.au, fun b o hb => Nat.lt_of_lt_of_le (HQ2.out.eb b o hb) hK5.size⟩, HUV.out⟩, HJ.out.2.trans ((HK4.out.weaken (fun k hk _ => pwl_sub HKN.out k hk)).trans ((HZ2.out.weaken (by simp)).trans (hK5.weaken (by simp [pwl]))))⟩)
        clear HJ
        go_wp2_with fail
        go_roundw
        case rel => exact ⟨k + 1, by go_num, by have := HLT.out; omega, HNX⟩
        case measure => simp [intOf]; have := HLT.out; omega
      · rw [if_neg hkn] at q0
        have HNX : Hid (SpX (UvIn uv up ns) wo q r fb g p pm most ns sh (bareT T ns (k + 1)) up c (A.bare ns (k + 1)) age use kept lost ga gc ea ec ∧ Keep (pwl q ga g p pm ns sh) x wo) := Lib.hid (by
          rw [bareT_over T (by omega), bareA_over A (by omega)]; exact HJ.out)
        clear hkn hkl hk1 HJ
        go_wp2_with fail
        go_roundw
        case rel => exact ⟨k + 1, by go_num, by have := HLT.out; omega, HNX⟩
        case measure => simp [intOf]; have := HLT.out; omega
    · have hk8 : k = 8 := by omega
      have hk3 : ¬ ((k : Int) < 8) := by omega
      rw [hk8] at HJ
      obtain ⟨uv', L', lent', f', hJ, hUV⟩ := HJ.out.1
      have HUV := Lib.hid hUV
      clear hUV
      have HW := Lib.hid hJ
      have hrow := hJ.qq.row
      have hmap : (age.map fun k => Value.int .i64 ((k : Nat) : Int)) = (age.map fun k : Nat => (k : Int)).map (Value.int .i64) := by rw [List.map_map]; rfl
      rw [hmap] at hrow
      obtain ⟨g', cap', hgv, -, hgl, hnc, hcm, hzl, hH⟩ := Lib.holds_of_ownsRow hrow (by simp)
      cases hgv
      have CS := Try.slices_Sort_int ga 0 gc (age.map fun k : Nat => (k : Int)) wo hH hgl (by have := hJ.qq.ns8; omega)
      rw [hzl, sort_range hJ.qq.nd hJ.qq.len hJ.qq.lt] at CS
      have HR : Hid (∀ n os, (Sort.grow (Sort.putRow (Value.int .i64) (Sort.ahead wo n) ga 0 ((List.range ns).map fun k : Nat => (k : Int)).toArray) os).ownsRow 0 3 1 (.slice (some ⟨ga, 0, none⟩) ns gc) ns ((List.range ns).map fun k => .int .i64 (k : Nat)) ∧ Keep [ga] wo (Sort.grow (Sort.putRow (Value.int .i64) (Sort.ahead wo n) ga 0 ((List.range ns).map fun k : Nat => (k : Int)).toArray) os)) := Lib.hid (fun n os => by
        have hg := Go.grownBy_sortedI (w := wo) (g := ga) (n := n) (os := os) ((List.range ns).map fun k : Nat => (k : Int)).toArray
        obtain ⟨l, hl1, hk⟩ := grown_keepTo hg
        refine ⟨?_, hk.weaken (fun k hk _ => by have := hl1 k hk; cases this; simp)⟩
        rcases hrow.2 with ⟨h1, _⟩ | ⟨g1, cap1, cur, h1, hB, hh, hcap, hmax, hsz, htk⟩
        · cases h1
        · cases h1
          have := Go.ownsRow_sortedI (n := n) (os := os) (ss := age.map fun k : Nat => (k : Int)) (ts := (List.range ns).map fun k : Nat => (k : Int)) (by rw [hzl]; simp) hB hh (by omega) hmax hsz
          rw [hzl, List.map_map] at this
          exact this)
      have HCS := Lib.hid CS
      obtain ⟨-, -, -, c3, c4, -⟩ := hJ.qq.cells
      clear hJ hrow hmap hH hgl hnc hcm hzl CS hkl hk1
      go_wp2_with fail
      refine HCS.out.mono ?_
      rintro e w5 ⟨rfl, n5, os5, hw5⟩
      have HR5 := HR.out n5 os5
      rw [← hw5] at HR5
      have HQ5 := Lib.hid (HW.out.qq.sorted HR5.2 HR5.1)
      have HK5 := Lib.hid HR5.2
      clear HR5 hw5 HR HCS c3 c4
      obtain ⟨-, -, -, -, c4, -⟩ := HQ5.out.cells
      have e4 := ArrAt.frozen HQ5.out.arr 44
      have HF : Hid (SClr (UvIn uv up ns) q r fb g p pm most ns sh T up c A kept lost ga gc ea ec x (w5.setCell ⟨q, 44, none⟩ (.bool false))) := Lib.hid (by
        have hks : Keep [q] w5 (w5.setCell ⟨q, 44, none⟩ (.bool false)) := keepSet (Keep.refl _ _) (by simp) _ _
        have hK : Keep [q, ga] wo (w5.setCell ⟨q, 44, none⟩ (.bool false)) := (HK5.out.weaken (by simp)).trans (hks.weaken (by simp))
        exact ⟨⟨uv', L', lent', _, ⟨HW.out.own (fun j hj => by simpa using hj) hK, HQ5.out.setU false, HW.out.us, HW.out.nq, HW.out.au, fun b o hb => Nat.lt_of_lt_of_le (HW.out.eb b o hb) hK.size⟩, HUV.out⟩, HJ.out.2.trans (hK.weaken (by intro k hk _; simp only [List.mem_cons, List.not_mem_nil, or_false] at hk; rcases hk with rfl | rfl <;> simp [pwl]))⟩)
      clear HJ
      go_wp2_with fail
      go_end0
      exact ⟨⟨_, rfl⟩, HF.out⟩
end
end Go.Proofs.Ytpinoejckagjbaa
