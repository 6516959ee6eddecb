/- Contracts of the functions that the law reaches, walked, and the plain laws on them (several texts in one). -/
import Derived.Test.YtpinoejckagjbaaM33
import Derived.Test.YtpinoejckagjbaaM36

/- The program's spaces: one selected. -/
namespace Go.Proofs.Ytpinoejckagjbaa
open Go.RowKit Go.Mum
set_option linter.unusedVariables false
set_option linter.unusedSimpArgs false
set_option maxRecDepth 100000

theorem QAt.upd {x y : World} {q r fb g p pm ns : Nat} {sh : Nat → Nat} {A : QSt} {age : List Nat} {use : Bool} {kept lost : Nat} {f : Nat → Value} {ga gc : Nat} {ea : Option Addr} {ec : Nat} (h : QAt x q r fb g p pm ns sh A age use kept lost f ga gc ea ec) (hk : Keep [q] x y) {f' : Nat → Value} (ha : ArrAt y q 102 48 f') {A' : QSt} {use' : Bool} {kept' lost' : Nat}
    (hf : ∀ j, j < 3 → f' j = f j) (hs : ∀ k, k < 8 → f' (3 + k * 5) = f (3 + k * 5)) (ht : ∀ k, k < 8 → f' (3 + k * 5 + 1) = .bool (A'.tk k)) (hu : ∀ k, k < 8 → f' (3 + k * 5 + 2) = .bool (A'.us k)) (hp : ∀ k, k < 8 → f' (3 + k * 5 + 3) = .int .u32 (A'.kp k : Nat)) (hr : ∀ k, k < 8 → f' (3 + k * 5 + 4) = .int .u32 (A'.kr k : Nat))
    (h43 : f' 43 = f 43) (h44 : f' 44 = .bool use') (h45 : f' 45 = f 45) (h46 : f' 46 = .int .i64 (kept' : Nat)) (h47 : f' 47 = .int .i64 (lost' : Nat)) (hfree : ∀ k, ns ≤ k → A'.tk k = false) : QAt y q r fb g p pm ns sh A' age use' kept' lost' f' ga gc ea ec := by
  have hqn : q ∈ qNb q r fb g p pm ns sh := by simp [qNb]
  have hga : ga ≠ q := fun e => h.apart.1 (by rw [e]; exact hqn)
  refine ⟨ha, by rw [hf 0 (by omega), h.v0], by rw [hf 1 (by omega), h.v1], by rw [hf 2 (by omega), h.v2], fun k hk8 => by rw [hs k hk8, h.vs k hk8], ht, hu, hp, hr, by rw [h43, h.va], h44, by rw [h45, h.vup], h46, h47, own_keep h.row hk (fun b hb => by cases hb; simpa using hga), ⟨h.up.le, h.up.lt, ?_⟩, h.nd, h.lt, h.len, h.ns8, hfree, h.apart, fun k hkm => Nat.lt_of_lt_of_le (h.ltb k hkm) hk.size⟩
  rcases h.up.row with h3 | ⟨b, o, h3, h4, h5⟩
  · exact .inl h3
  · refine .inr ⟨b, o, h3, h4, fun j hj => hk.cell (h5 j hj) ?_⟩
    simp only [List.mem_singleton]
    rintro rfl
    exact h4 hqn

theorem QAt.setK {x : World} {q r fb g p pm ns : Nat} {sh : Nat → Nat} {A : QSt} {age : List Nat} {use : Bool} {kept lost : Nat} {f : Nat → Value} {ga gc : Nat} {ea : Option Addr} {ec : Nat} (h : QAt x q r fb g p pm ns sh A age use kept lost f ga gc ea ec) (n : Nat) : QAt (x.setCell ⟨q, 46, none⟩ (.int .i64 (n : Nat))) q r fb g p pm ns sh A age use n lost (fset f 46 (.int .i64 (n : Nat))) ga gc ea ec :=
  h.upd (f' := fset f 46 (.int .i64 (n : Nat))) (keepSet (Keep.refl _ _) (by simp) _ _) (ArrAt.set h.arr _ _) (fun j hj => fset_ne (by omega)) (fun k hk => fset_ne (by omega)) (fun k hk => by rw [fset_ne (by omega), h.vt k hk]) (fun k hk => by rw [fset_ne (by omega), h.vu k hk]) (fun k hk => by rw [fset_ne (by omega), h.vp k hk]) (fun k hk => by rw [fset_ne (by omega), h.vr k hk]) (fset_ne (by omega)) (by rw [fset_ne (by omega), h.vuse]) (fset_ne (by omega)) fset_same (by rw [fset_ne (by omega), h.vl]) h.free

theorem QAt.setL {x : World} {q r fb g p pm ns : Nat} {sh : Nat → Nat} {A : QSt} {age : List Nat} {use : Bool} {kept lost : Nat} {f : Nat → Value} {ga gc : Nat} {ea : Option Addr} {ec : Nat} (h : QAt x q r fb g p pm ns sh A age use kept lost f ga gc ea ec) (n : Nat) : QAt (x.setCell ⟨q, 47, none⟩ (.int .i64 (n : Nat))) q r fb g p pm ns sh A age use kept n (fset f 47 (.int .i64 (n : Nat))) ga gc ea ec :=
  h.upd (f' := fset f 47 (.int .i64 (n : Nat))) (keepSet (Keep.refl _ _) (by simp) _ _) (ArrAt.set h.arr _ _) (fun j hj => fset_ne (by omega)) (fun k hk => fset_ne (by omega)) (fun k hk => by rw [fset_ne (by omega), h.vt k hk]) (fun k hk => by rw [fset_ne (by omega), h.vu k hk]) (fun k hk => by rw [fset_ne (by omega), h.vp k hk]) (fun k hk => by rw [fset_ne (by omega), h.vr k hk]) (fset_ne (by omega)) (by rw [fset_ne (by omega), h.vuse]) (fset_ne (by omega)) (by rw [fset_ne (by omega), h.vk]) fset_same h.free

theorem cell_far {w : World} {b i j : Nat} {v u : Value} (hij : i ≠ j) (h : w.cell? ⟨b, j, none⟩ = some u) : (w.setCell ⟨b, i, none⟩ v).cell? ⟨b, j, none⟩ = some u := by
  have hne : (⟨b, i, none⟩ : Addr) ≠ ⟨b, j, none⟩ := fun e => hij (by cases e; rfl)
  rw [World.cell?_setCell_other w _ _ v hne]
  exact h

/-- A space that is taken. -/
def QSt.take (A : QSt) (n kp kr : Nat) (b : Bool) : QSt := { tk := updN A.tk n true, us := updN A.us n b, kp := updN A.kp n kp, kr := updN A.kr n kr }

theorem QAt.take {x y : World} {q r fb g p pm ns : Nat} {sh : Nat → Nat} {A : QSt} {age : List Nat} {use : Bool} {kept lost : Nat} {f : Nat → Value} {ga gc : Nat} {ea : Option Addr} {ec : Nat} (h : QAt x q r fb g p pm ns sh A age use kept lost f ga gc ea ec) {n : Nat} (hn : n < ns) (kp kr : Nat) (b : Bool)
    (hy : y = (((x.setCell ⟨q, 3 + n * 5 + 1, none⟩ (.bool true)).setCell ⟨q, 3 + n * 5 + 3, none⟩ (.int .u32 (kp : Nat))).setCell ⟨q, 3 + n * 5 + 4, none⟩ (.int .u32 (kr : Nat))).setCell ⟨q, 3 + n * 5 + 2, none⟩ (.bool b)) : ∃ f', QAt y q r fb g p pm ns sh (A.take n kp kr b) age use kept lost f' ga gc ea ec ∧ Keep [q] x y := by
  have hk : Keep [q] x y := by rw [hy]; exact keepSet (keepSet (keepSet (keepSet (Keep.refl _ _) (by simp) _ _) (by simp) _ _) (by simp) _ _) (by simp) _ _
  have h8 := h.ns8
  have ha : ArrAt y q 102 48 (fset (fset (fset (fset f (3 + n * 5 + 1) (.bool true)) (3 + n * 5 + 3) (.int .u32 (kp : Nat))) (3 + n * 5 + 4) (.int .u32 (kr : Nat))) (3 + n * 5 + 2) (.bool b)) := by
    rw [hy]; exact ArrAt.set (ArrAt.set (ArrAt.set (ArrAt.set h.arr _ _) _ _) _ _) _ _
  have hne : ∀ j, j ≠ 3 + n * 5 + 1 → j ≠ 3 + n * 5 + 2 → j ≠ 3 + n * 5 + 3 → j ≠ 3 + n * 5 + 4 → fset (fset (fset (fset f (3 + n * 5 + 1) (.bool true)) (3 + n * 5 + 3) (.int .u32 (kp : Nat))) (3 + n * 5 + 4) (.int .u32 (kr : Nat))) (3 + n * 5 + 2) (.bool b) j = f j := fun j h1 h2 h3 h4 => by rw [fset_ne h2, fset_ne h4, fset_ne h3, fset_ne h1]
  refine ⟨_, h.upd hk ha (A' := A.take n kp kr b) (fun j hj => hne j (by omega) (by omega) (by omega) (by omega)) (fun k hk8 => hne _ (by omega) (by omega) (by omega) (by omega)) (fun k hk8 => ?_) (fun k hk8 => ?_) (fun k hk8 => ?_) (fun k hk8 => ?_) (hne _ (by omega) (by omega) (by omega) (by omega)) (by rw [hne _ (by omega) (by omega) (by omega) (by omega), h.vuse]) (hne _ (by omega) (by omega) (by omega) (by omega)) (by rw [hne _ (by omega) (by omega) (by omega) (by omega), h.vk]) (by rw [hne _ (by omega) (by omega) (by omega) (by omega), h.vl]) (fun k hk8 => ?_), hk⟩
  · show _ = Value.bool (updN A.tk n true k)
    by_cases hkn : k = n
    · subst hkn; rw [updN_same, fset_ne (by omega), fset_ne (by omega), fset_ne (by omega), fset_same]
    · rw [updN_ne hkn, hne _ (by omega) (by omega) (by omega) (by omega), h.vt k hk8]
  · show _ = Value.bool (updN A.us n b k)
    by_cases hkn : k = n
    · subst hkn; rw [updN_same, fset_same]
    · rw [updN_ne hkn, hne _ (by omega) (by omega) (by omega) (by omega), h.vu k hk8]
  · show _ = Value.int .u32 (updN A.kp n kp k : Nat)
    by_cases hkn : k = n
    · subst hkn; rw [updN_same, fset_ne (by omega), fset_ne (by omega), fset_same]
    · rw [updN_ne hkn, hne _ (by omega) (by omega) (by omega) (by omega), h.vp k hk8]
  · show _ = Value.int .u32 (updN A.kr n kr k : Nat)
    by_cases hkn : k = n
    · subst hkn; rw [updN_same, fset_ne (by omega), fset_same]
    · rw [updN_ne hkn, hne _ (by omega) (by omega) (by omega) (by omega), h.vr k hk8]
  · show updN A.tk n true k = false
    rw [updN_ne (by omega), h.free k hk8]

/-- The blocks that the program's calls turn. -/
def pwl (q ga g p pm ns : Nat) (sh : Nat → Nat) : List Nat := q :: ga :: g :: p :: pm :: (List.range ns).map sh

/-- The program's spaces with their shadows. -/
structure SpAt (x : World) (q r fb g p pm most ns : Nat) (sh : Nat → Nat) (uv : Nat → Value) (T : Nat → Nat → Tab) (up : Nat → Bool) (L lent : List Int) (c : Nat) (A : QSt) (age : List Nat) (use : Bool) (kept lost : Nat) (f : Nat → Value) (ga gc : Nat) (ea : Option Addr) (ec : Nat) : Prop where
  m : MAt x sh uv r fb g p pm most ns T up L lent c
  qq : QAt x q r fb g p pm ns sh A age use kept lost f ga gc ea ec
  us : ∀ k, k < ns → A.us k = up k
  nq : q ∉ r :: fb :: g :: p :: pm :: (List.range ns).map sh
  au : ∀ k, k < ns → up k = true → ∀ b, (uv k).ownBlock = some b → b ≠ q ∧ b ≠ ga
  eb : ∀ b o, ea = some ⟨b, o, none⟩ → b < x.heap.size

/-- In which blocks the upper halves lie. -/
def UvIn (uv : Nat → Value) (up : Nat → Bool) (ns : Nat) (z : Nat) : Prop := ∃ m, m < ns ∧ up m = true ∧ (uv m).ownBlock = some z
def UvV (uv : Nat → Value) (up : Nat → Bool) (ns : Nat) (V : Nat → Prop) : Prop := ∀ m, m < ns → up m = true → ∀ z, (uv m).ownBlock = some z → V z
theorem UvV.self (uv : Nat → Value) (up : Nat → Bool) (ns : Nat) : UvV uv up ns (UvIn uv up ns) := fun m hm hu z hz => ⟨m, hm, hu, hz⟩

/-- The same, whatever lies in the memory. -/
def SpX (V : Nat → Prop) (x : World) (q r fb g p pm most ns : Nat) (sh : Nat → Nat) (T : Nat → Nat → Tab) (up : Nat → Bool) (c : Nat) (A : QSt) (age : List Nat) (use : Bool) (kept lost : Nat) (ga gc : Nat) (ea : Option Addr) (ec : Nat) : Prop := ∃ uv L lent f, SpAt x q r fb g p pm most ns sh uv T up L lent c A age use kept lost f ga gc ea ec ∧ UvV uv up ns V

section
variable {x y : World} {q r fb g p pm most ns : Nat} {sh : Nat → Nat} {uv : Nat → Value} {T : Nat → Nat → Tab} {up : Nat → Bool} {L lent : List Int} {c : Nat} {A : QSt} {age : List Nat} {use : Bool} {kept lost : Nat} {f : Nat → Value} {ga gc : Nat} {ea : Option Addr} {ec : Nat}

theorem SpAt.keep0 (h : SpAt x q r fb g p pm most ns sh uv T up L lent c A age use kept lost f ga gc ea ec) (hk : Keep [] x y) : SpAt y q r fb g p pm most ns sh uv T up L lent c A age use kept lost f ga gc ea ec :=
  ⟨h.m.keep0 hk, h.qq.keep0 hk, h.us, h.nq, h.au, fun b o hb => Nat.lt_of_lt_of_le (h.eb b o hb) hk.size⟩

/-- What is written in the spaces' own blocks alone leaves the shadows. -/
theorem SpAt.own (h : SpAt x q r fb g p pm most ns sh uv T up L lent c A age use kept lost f ga gc ea ec) {l : List Nat} (hl : ∀ k ∈ l, k = q ∨ k = ga) (hk : Keep l x y) : MAt y sh uv r fb g p pm most ns T up L lent c := by
  have h1 := h.nq
  have h2 := h.qq.apart.1
  simp only [qNb, List.mem_cons, List.mem_map, List.mem_range, not_or, not_exists, not_and] at h1 h2
  have hno : ∀ k, k ≠ q → k ≠ ga → k ∉ l := fun k a1 a2 hm => by
    rcases hl k hm with q | q
    · exact a1 q
    · exact a2 q
  refine h.m.keep hk ⟨hno _ (fun e => h1.1 e.symm) (fun e => h2.2.1 e.symm), hno _ (fun e => h1.2.1 e.symm) (fun e => h2.2.2.1 e.symm), hno _ (fun e => h1.2.2.1 e.symm) (fun e => h2.2.2.2.1 e.symm), hno _ (fun e => h1.2.2.2.1 e.symm) (fun e => h2.2.2.2.2.1 e.symm), hno _ (fun e => h1.2.2.2.2.1 e.symm) (fun e => h2.2.2.2.2.2.1 e.symm)⟩ (fun k hkn => hno _ (h1.2.2.2.2.2 k hkn) (h2.2.2.2.2.2.2 k hkn)) (fun k hkn hu b hb => hno _ (h.au k hkn hu b hb).1 (h.au k hkn hu b hb).2)

theorem SpAt.eab (h : SpAt x q r fb g p pm most ns sh uv T up L lent c A age use kept lost f ga gc ea ec) : ∃ b o, ea = some ⟨b, o, none⟩ ∧ b ∉ qNb q r fb g p pm ns sh := by
  rcases h.qq.up.row with h3 | ⟨b, o, h3, h4, h5⟩
  · cases h3
  · exact ⟨b, o, h3, h4⟩
end

theorem mem_age {age : List Nat} {ns : Nat} (hn : age.Nodup) (hl : age.length = ns) (hlt : ∀ k ∈ age, k < ns) {k : Nat} (hk : k < ns) : k ∈ age := by
  by_cases hm : k ∈ age
  · exact hm
  · exfalso
    have := nodup_le (k :: age) (List.range ns) (List.nodup_cons.2 ⟨hm, hn⟩) (fun z hz => by
      rw [List.mem_range]
      rcases List.mem_cons.1 hz with rfl | hz
      · exact hk
      · exact hlt z hz)
    simp only [List.length_cons, List.length_range] at this
    omega

/-- Whose space is it? -/
def keyQ (A : QSt) (kp kr : Nat) (k : Nat) : Bool := A.tk k && (A.kp k == kp && A.kr k == kr)

def SelQ (A : QSt) (age : List Nat) (T : Nat → Nat → Tab) (up : Nat → Bool) (kept lost kp kr : Nat) (b : Bool) (r : Bool) (A' : QSt) (age' : List Nat) (T' : Nat → Nat → Tab) (up' : Nat → Bool) (kept' lost' : Nat) : Prop :=
  (∃ n, n ∈ age ∧ keyQ A kp kr n = true ∧ (∀ j, j < n → keyQ A kp kr j = false) ∧ r = true ∧ A' = A ∧ age' = youngL age n ∧ T' = T ∧ up' = up ∧ kept' = kept + 1 ∧ lost' = lost) ∨
  ((∀ j, keyQ A kp kr j = false) ∧ r = false ∧ ∃ h0 : 0 < age.length, A' = A.take age[0] kp kr b ∧ age' = youngL age age[0] ∧ T' = setSh T age[0] (fun _ => tab0) ∧ up' = setUp up age[0] b ∧ kept' = kept ∧ lost' = lost + 1)

def SelPost (V : Nat → Prop) (q r fb g p pm most ns : Nat) (sh : Nat → Nat) (T : Nat → Nat → Tab) (up : Nat → Bool) (c : Nat) (A : QSt) (age : List Nat) (kept lost : Nat) (ga gc : Nat) (ea : Option Addr) (ec kp kr : Nat) (b : Bool) (x : World) (e : Ending) (y : World) : Prop :=
  ∃ rr A' age' T' up' kept' lost', e = .returned (.bool rr) ∧ SelQ A age T up kept lost kp kr b rr A' age' T' up' kept' lost' ∧ SpX V y q r fb g p pm most ns sh T' up' c A' age' true kept' lost' ga gc ea ec ∧ Keep (pwl q ga g p pm ns sh) x y

set_option maxHeartbeats 8000000 in
theorem select_at {x : World} {q r fb g p pm most ns : Nat} {sh : Nat → Nat} {uv : Nat → Value} {T : Nat → Nat → Tab} {up : Nat → Bool} {L lent : List Int} {c : Nat} {A : QSt} {age : List Nat} {use : Bool} {kept lost : Nat} {f : Nat → Value} {ga gc : Nat} {ea : Option Addr} {ec : Nat} (h : SpAt x q r fb g p pm most ns sh uv T up L lent c A age use kept lost f ga gc ea ec) (hc1 : kept ≤ 100000) (hc2 : lost ≤ 100000) (kp kr : Nat) (b : Bool) :
    Calls Try.prog 31 #[.pointer (some ⟨q, 0, none⟩), .agg #[.int .u32 kp, .int .u32 kr], .bool b] x (SelPost (fun z => UvIn uv up ns z ∨ x.heap.size ≤ z) q r fb g p pm most ns sh T up c A age kept lost ga gc ea ec kp kr b x) := by
  have HS := Lib.hid h
  obtain ⟨bx, hbx⟩ : ∃ b, b = x.heap.size := ⟨_, rfl⟩
  clear h
  go_enter Try.func31, Try.ntmps31
  go_wp2_with fail
  rw [← hbx]
  generalize hy : World.alloc x _ = y
  have H0 : Hid (Keep [] x y ∧ y.heap[bx]? = some (.cells #[.int .u32 kp, .int .u32 kr] 70 (0, 0)) ∧ bx = x.heap.size) := Lib.hid (by
    subst hy
    exact ⟨(Keep.refl _ _).alloc _, heap_alloc_at _ hbx, hbx⟩)
  clear hy hbx
  have HSy := Lib.hid (HS.out.keep0 H0.out.1)
  refine (none_at HSy.out.qq.cells.1).mono ?_
  rintro e z ⟨rfl, rfl⟩
  have k0 : y.cell? ⟨bx, 0, none⟩ = some (.int .u32 kp) := cell_of H0.out.2.1 0 rfl
  have k1 : y.cell? ⟨bx, 1, none⟩ = some (.int .u32 kr) := cell_of H0.out.2.1 1 rfl
  go_wp2_with fail
  go_loopw [12] (fun kv wr => ∃ k : Nat, kv = .int .i64 k ∧ k ≤ 8 ∧ Hid (Keep [] y wr ∧ ∀ j, j < k → keyQ A kp kr j = false)) (fun kv _ => 8 - (intOf kv).toNat)
  case atStart => exact ⟨0, rfl, by omega, Lib.hid ⟨Keep.refl _ _, fun j q => by omega⟩⟩
  case round =>
    obtain ⟨k, rfl, hk1, HJ⟩ := hrel
    rename World => wo
    have hkw := HJ.out.1
    replace k0 := hkw.cell k0 (by simp)
    replace k1 := hkw.cell k1 (by simp)
    have HW := Lib.hid (HSy.out.keep0 hkw)
    by_cases hkl : k < 8
    · have hk0 : (0 : Int) ≤ (k : Int) := by omega
      have hk3 : (k : Int) < 8 := by omega
      obtain ⟨-, q0, -, q1, q2⟩ := HW.out.qq.space hkl
      have HLT := Lib.hid hkl
      cases htk : A.tk k
      · rw [htk] at q0
        have HJ2 : Hid (∀ d, Keep [] y (wo.drewN d) ∧ ∀ j, j < k + 1 → keyQ A kp kr j = false) := Lib.hid (fun d => ⟨HJ.out.1.drewN d, fun j q => by
          rcases (by omega : j < k ∨ j = k) with q | rfl
          · exact HJ.out.2 j q
          · unfold keyQ; rw [htk]; rfl⟩)
        clear htk hkl hk1 hkw
        go_wp2_with fail
        go_quiet (fail)
        go_wp2_with fail
        go_roundw
        case rel => exact ⟨k + 1, by go_num, by have := HLT.out; omega, Lib.hid (HJ2.out _)⟩
        case measure => simp [intOf]; have := HLT.out; omega
      · rw [htk] at q0
        have hke := key_eql (A.kp k) (A.kr k) kp kr
        have HB : Hid (keyQ A kp kr k = (A.kp k == kp && A.kr k == kr)) := Lib.hid (by unfold keyQ; rw [htk]; rfl)
        have HT := Lib.hid htk
        cases hkb : (A.kp k == kp && A.kr k == kr)
        · rw [hkb] at hke
          have HJ2 : Hid (∀ d, Keep [] y (wo.drewN d) ∧ ∀ j, j < k + 1 → keyQ A kp kr j = false) := Lib.hid (fun d => ⟨HJ.out.1.drewN d, fun j q => by
            rcases (by omega : j < k ∨ j = k) with q | rfl
            · exact HJ.out.2 j q
            · rw [HB.out, hkb]⟩)
          clear htk hkl hk1 hkb hkw
          go_wp2_with fail
          go_quiet (fail)
          go_wp2_with fail
          go_roundw
          case rel => exact ⟨k + 1, by go_num, by have := HLT.out; omega, Lib.hid (HJ2.out _)⟩
          case measure => simp [intOf]; have := HLT.out; omega
        · rw [hkb] at hke
          have HKB : Hid (keyQ A kp kr k = true) := Lib.hid (by rw [HB.out, hkb])
          clear htk hkl hk1 hkb hkw
          go_wp2_with fail
          go_quiet (fail)
          go_wp2_with fail
          generalize hw2 : World.drewN wo _ = w2
          have HW2 : Hid (Keep [] y w2) := Lib.hid (by subst hw2; exact HJ.out.1.drewN _)
          clear hw2
          have HS2 := Lib.hid (HSy.out.keep0 HW2.out)
          have hkn : k < ns := by
            by_cases hh : k < ns
            · exact hh
            · have := HS.out.qq.free k (by omega)
              rw [HT.out] at this; cases this
          have hmem := mem_age HS.out.qq.nd HS.out.qq.len HS.out.qq.lt hkn
          have HM := Lib.hid hmem
          obtain ⟨i, hi, hik⟩ := List.getElem_of_mem hmem
          have C := young_at HS2.out.qq hi
          rw [hik] at C
          clear hik hkn hmem
          refine C.mono ?_
          rintro e z ⟨⟨v, rfl⟩, f2, hQ, hKz⟩
          have hMz := HS2.out.own (fun j hj => by simpa using hj) hKz
          obtain ⟨-, -, -, -, -, -, d6, -⟩ := hQ.cells
          have e6 := ArrAt.frozen hQ.arr 46
          have HF : Hid (SelPost (fun z => UvIn uv up ns z ∨ x.heap.size ≤ z) q r fb g p pm most ns sh T up c A age kept lost ga gc ea ec kp kr b x (.returned (.bool true)) (z.setCell ⟨q, 46, none⟩ (.int .i64 ((kept : Int) + 1)))) := Lib.hid (by
            have hcast : ((kept : Int) + 1) = ((kept + 1 : Nat) : Int) := by omega
            rw [hcast]
            have hQ2 := hQ.setK (kept + 1)
            have hks : Keep [q] z (z.setCell ⟨q, 46, none⟩ (.int .i64 ((kept + 1 : Nat) : Int))) := keepSet (Keep.refl _ _) (by simp) _ _
            have hK : Keep [q, ga] x (z.setCell ⟨q, 46, none⟩ (.int .i64 ((kept + 1 : Nat) : Int))) := ((H0.out.1.trans HW2.out).weaken (by simp)).trans (hKz.trans (hks.weaken (by simp)))
            refine ⟨true, A, _, T, up, kept + 1, lost, rfl, .inl ⟨k, HM.out, HKB.out, HJ.out.2, rfl, rfl, rfl, rfl, rfl, rfl, rfl⟩, ⟨uv, L, lent, _, ⟨HS.out.own (fun j hj => by simpa using hj) hK, hQ2, HS.out.us, HS.out.nq, HS.out.au, fun b o hb => Nat.lt_of_lt_of_le (HS.out.eb b o hb) hK.size⟩, fun m hm hu z hz => .inl ⟨m, hm, hu, hz⟩⟩, hK.weaken (by simp [pwl])⟩)
          clear hQ hKz hMz C
          go_wp2_with (go_at_call 62; refine (aadd_at d6 e6 (by omega) (by omega) (by omega) (by omega)).mono ?_; rintro e w' ⟨rfl, rfl⟩)
          go_ret
          exact HF.out
    · have hk3 : ¬ ((k : Int) < 8) := by omega
      have HNO : Hid (∀ j, keyQ A kp kr j = false) := Lib.hid (fun j => by
        by_cases hj : j < k
        · exact HJ.out.2 j hj
        · have := HS.out.qq.free j (by have := HS.out.qq.ns8; omega)
          unfold keyQ; rw [this]; rfl)
      have h0n : 0 < age.length := by have := HS.out.qq.ns8; have := HS.out.qq.len; omega
      have H0N := Lib.hid h0n
      obtain ⟨-, -, -, -, -, -, -, d7⟩ := HW.out.qq.cells
      have e7 := ArrAt.frozen HW.out.qq.arr 47
      have HS1 : Hid (∀ w1, w1 = wo.setCell ⟨q, 47, none⟩ (.int .i64 ((lost : Int) + 1)) → SpAt w1 q r fb g p pm most ns sh uv T up L lent c A age use kept (lost + 1) (fset f 47 (.int .i64 ((lost + 1 : Nat) : Int))) ga gc ea ec ∧ Keep [q] x w1 ∧ Keep [q] y w1) := Lib.hid (fun w1 hw => by
        have hcast : ((lost : Int) + 1) = ((lost + 1 : Nat) : Int) := by omega
        rw [hcast] at hw
        subst hw
        have hks : Keep [q] wo (wo.setCell ⟨q, 47, none⟩ (.int .i64 ((lost + 1 : Nat) : Int))) := keepSet (Keep.refl _ _) (by simp) _ _
        have hK : Keep [q] x (wo.setCell ⟨q, 47, none⟩ (.int .i64 ((lost + 1 : Nat) : Int))) := ((H0.out.1.trans hkw).weaken (by simp)).trans hks
        exact ⟨⟨HS.out.own (fun j hj => by simp at hj; exact .inl hj) hK, HW.out.qq.setL (lost + 1), HS.out.us, HS.out.nq, HS.out.au, fun b o hb => Nat.lt_of_lt_of_le (HS.out.eb b o hb) hK.size⟩, hK, (hkw.weaken (by simp)).trans hks⟩)
      have hbq : bx ≠ q := by
        have h1 := HS.out.qq.ltb q (by simp [qNb])
        have h2 := H0.out.2.2
        omega
      have hbg : bx ≠ ga := by
        obtain ⟨-, -, -, cu, hcu⟩ := HS.out.qq.ageCell
        have h1 := lt_of_heap hcu
        have h2 := H0.out.2.2
        omega
      clear hkl hk1 h0n
      go_wp2_with fail
      refine (aadd_at d7 e7 (by omega) (by omega) (by omega) (by omega)).mono ?_
      rintro e w' ⟨rfl, hw'⟩
      have HW1 := Lib.hid (HS1.out w' hw')
      clear hw' HS1 d7 e7
      rename World => w1
      obtain ⟨hgc, hgm, hga, -⟩ := HW1.out.1.qq.ageCell
      obtain ⟨-, -, -, d3, -⟩ := HW1.out.1.qq.cells
      have h0n := H0N.out
      have d0 := hga 0 h0n
      have C0 := Lib.hid (young_at HW1.out.1.qq h0n)
      obtain ⟨n, hn⟩ : ∃ n, n = age[0] := ⟨_, rfl⟩
      rw [← hn] at d0 C0
      have HN : Hid (∃ h0 : 0 < age.length, n = age[0]) := Lib.hid ⟨h0n, hn⟩
      have hns : (0 : Int) < (ns : Int) := by have := HS.out.qq.ns8; omega
      replace k0 : w1.cell? ⟨bx, 0, none⟩ = some (.int .u32 kp) := HW1.out.2.2.cell (H0.out.2.1 |> fun h => cell_of h 0 rfl) (by simpa using hbq)
      replace k1 : w1.cell? ⟨bx, 1, none⟩ = some (.int .u32 kr) := HW1.out.2.2.cell (H0.out.2.1 |> fun h => cell_of h 1 rfl) (by simpa using hbq)
      clear hga hgc hgm hn h0n
      go_wp2_with fail
      refine C0.out.mono ?_
      rintro e z ⟨⟨v, rfl⟩, f2, hQ, hKz⟩
      have hnl : n < ns := by obtain ⟨h0, h1⟩ := HN.out; rw [h1]; exact HS.out.qq.lt _ (List.getElem_mem h0)
      have hns8 := HS.out.qq.ns8
      replace k0 := hKz.cell k0 (by simp; omega)
      replace k1 := hKz.cell k1 (by simp; omega)
      have HZ := Lib.hid (And.intro hQ (And.intro (HW1.out.1.own (fun j hj => by simpa using hj) hKz) hKz))
      obtain ⟨-, -, -, -, -, d5, -, -⟩ := hQ.cells
      obtain ⟨q0, q1, q2, q3, q4⟩ := hQ.space (k := n) (by omega)
      rw [if_pos hnl] at q0
      have g1 := ArrAt.frozen hQ.arr (3 + n * 5 + 1)
      have g2 := ArrAt.frozen hQ.arr (3 + n * 5 + 2)
      have g3 := ArrAt.frozen hQ.arr (3 + n * 5 + 3)
      have g4 := ArrAt.frozen hQ.arr (3 + n * 5 + 4)
      have hn0 : (0 : Int) ≤ (n : Int) := by omega
      have hn8 : (n : Int) < 8 := by omega
      have HLN := Lib.hid (And.intro hnl hns8)
      clear hQ hKz d3 d0 hnl hns8 hkw q0 q1 q2 q3 q4 g1 g2 g3 g4 C0
      cases b
      · go_wp2_with fail
        refine wp_region_held_drew (S := fun u => u.cell? ⟨q, 45, none⟩ = some (.slice ea 4 ec) ∧ u.cell? ⟨bx, 0, none⟩ = some (.int .u32 kp) ∧ u.cell? ⟨bx, 1, none⟩ = some (.int .u32 kr)) (by kernel_rfl) ⟨d5, k0, k1⟩ (fun hHeld => ?_)
        skip
        generalize hz2 : World.drew z = z2 at hHeld ⊢
        have HZ2 : Hid (Keep [] z z2) := Lib.hid (by subst hz2; exact (Keep.refl [] z).drew)
        clear hz2 d5 k0 k1
        have HQ2 := Lib.hid (HZ.out.1.keep0 HZ2.out)
        obtain ⟨q0, q1, q2, q3, q4⟩ := HQ2.out.space (k := n) (by have := HLN.out; omega)
        have g1 := ArrAt.frozen HQ2.out.arr (3 + n * 5 + 1)
        have g2 := ArrAt.frozen HQ2.out.arr (3 + n * 5 + 2)
        have g3 := ArrAt.frozen HQ2.out.arr (3 + n * 5 + 3)
        have g4 := ArrAt.frozen HQ2.out.arr (3 + n * 5 + 4)
        refine wpAnyH_take (i := 0) (oi := { dst := some 59, op := Op.move (Operand.tmp 9), type := 131, pos := "spaces.go:102", after := #[], guard := none }) (v := ?_) rfl (by kernel_rfl) (by kernel_rfl) (by kernel_rfl) (fun _ _ _ h => h) (Or.inl ⟨by rfl, ?_⟩) (by assumption) ?_
        rotate_left
        focus (intro w hSw; (try dsimp only at hSw); go_simp <;> with_reducible rfl)
        try simp only [Act.put, List.setIfInBounds_toArray, List.set_cons_zero, List.set_cons_succ]
        refine wpAnyH_take (i := 1) (oi := { dst := some 60, op := Op.move (Operand.tmp 9), type := 131, pos := "spaces.go:102", after := #[{ on := 15, ground := Ground.gcOnly Departure.lateStores }], guard := none }) (v := ?_) rfl (by kernel_rfl) (by kernel_rfl) (by kernel_rfl) (fun _ _ _ h => h) (Or.inl ⟨by rfl, ?_⟩) (by assumption) ?_
        rotate_left
        focus (intro w hSw; (try dsimp only at hSw); go_simp <;> with_reducible rfl)
        try simp only [Act.put, List.setIfInBounds_toArray, List.set_cons_zero, List.set_cons_succ]
        refine wpAnyH_take (i := 2) (oi := { dst := some 61, op := Op.move (Operand.tmp 9), type := 131, pos := "spaces.go:102", after := #[{ on := 18, ground := Ground.gcOnly Departure.lateStores }], guard := none }) (v := ?_) rfl (by kernel_rfl) (by kernel_rfl) (by kernel_rfl) (fun _ _ _ h => h) (Or.inl ⟨by rfl, ?_⟩) (by assumption) ?_
        rotate_left
        focus (intro w hSw; (try dsimp only at hSw); go_simp <;> with_reducible rfl)
        try simp only [Act.put, List.setIfInBounds_toArray, List.set_cons_zero, List.set_cons_succ]
        refine wpAnyH_take (i := 3) (oi := { dst := some 62, op := Op.load 70 (Operand.tmp 4), type := 70, pos := "spaces.go:102", after := #[{ on := 15, ground := Ground.gcOnly Departure.lateStores }], guard := none }) (v := ?_) rfl (by kernel_rfl) (by kernel_rfl) (by kernel_rfl) (fun _ _ _ h => h) (Or.inl ⟨by rfl, ?_⟩) (by assumption) ?_
        rotate_left
        focus (intro w hSw; (try dsimp only at hSw); go_simp <;> with_reducible rfl)
        try simp only [Act.put, List.setIfInBounds_toArray, List.set_cons_zero, List.set_cons_succ]
        refine wpAnyH_take (i := 4) (oi := { dst := some 63, op := Op.move (Operand.tmp 2), type := 4, pos := "spaces.go:102", after := #[], guard := none }) (v := ?_) rfl (by kernel_rfl) (by kernel_rfl) (by kernel_rfl) (fun _ _ _ h => h) (Or.inl ⟨by rfl, ?_⟩) (by assumption) ?_
        rotate_left
        focus (intro w hSw; (try dsimp only at hSw); go_simp <;> with_reducible rfl)
        try simp only [Act.put, List.setIfInBounds_toArray, List.set_cons_zero, List.set_cons_succ]
        refine wpAnyH_take (i := 5) (oi := { dst := some 64, op := Op.move (Operand.tmp 63), type := 4, pos := "spaces.go:102", after := #[{ on := 4, ground := Ground.data }], guard := none }) (v := ?_) rfl (by kernel_rfl) (by kernel_rfl) (by kernel_rfl) (fun _ _ _ h => h) (Or.inl ⟨by rfl, ?_⟩) (by assumption) ?_
        rotate_left
        focus (intro w hSw; (try dsimp only at hSw); go_simp <;> with_reducible rfl)
        try simp only [Act.put, List.setIfInBounds_toArray, List.set_cons_zero, List.set_cons_succ]
        refine wpAnyH_take (i := 6) (oi := { dst := some 65, op := Op.move (Operand.tmp 0), type := 75, pos := "spaces.go:102", after := #[{ on := 5, ground := Ground.guard }], guard := some (5, true) }) (v := undef) rfl (by kernel_rfl) (by kernel_rfl) (by kernel_rfl) (fun _ _ _ h => h) (Or.inr ⟨by rfl, rfl⟩) (by assumption) ?_
        try simp only [Act.put, List.setIfInBounds_toArray, List.set_cons_zero, List.set_cons_succ]
        refine wpAnyH_take (i := 7) (oi := { dst := some 66, op := Op.nilCheck (Operand.tmp 65), type := 0, pos := "spaces.go:102", after := #[{ on := 6, ground := Ground.data }, { on := 5, ground := Ground.guard }], guard := some (5, true) }) (v := undef) rfl (by kernel_rfl) (by kernel_rfl) (by kernel_rfl) (fun _ _ _ h => h) (Or.inr ⟨by rfl, rfl⟩) (by assumption) ?_
        try simp only [Act.put, List.setIfInBounds_toArray, List.set_cons_zero, List.set_cons_succ]
        refine wpAnyH_take (i := 8) (oi := { dst := some 67, op := Op.fieldAddr 102 (Operand.tmp 66) 6, type := 0, pos := "spaces.go:102", after := #[{ on := 7, ground := Ground.data }, { on := 5, ground := Ground.guard }], guard := some (5, true) }) (v := undef) rfl (by kernel_rfl) (by kernel_rfl) (by kernel_rfl) (fun _ _ _ h => h) (Or.inr ⟨by rfl, rfl⟩) (by assumption) ?_
        try simp only [Act.put, List.setIfInBounds_toArray, List.set_cons_zero, List.set_cons_succ]
        refine wpAnyH_take (i := 9) (oi := { dst := some 68, op := Op.load 44 (Operand.tmp 67), type := 44, pos := "spaces.go:102", after := #[{ on := 8, ground := Ground.data }, { on := 5, ground := Ground.guard }], guard := some (5, true) }) (v := undef) rfl (by kernel_rfl) (by kernel_rfl) (by kernel_rfl) (fun _ _ _ h => h) (Or.inr ⟨by rfl, rfl⟩) (by assumption) ?_
        try simp only [Act.put, List.setIfInBounds_toArray, List.set_cons_zero, List.set_cons_succ]
        refine wpAnyH_take (i := 10) (oi := { dst := some 69, op := Op.call { callee := Callee.builtin Builtin.len, args := #[Operand.tmp 68], argTypes := #[44] }, type := 3, pos := "spaces.go:102", after := #[{ on := 9, ground := Ground.data }, { on := 5, ground := Ground.guard }], guard := some (5, true) }) (v := undef) rfl (by kernel_rfl) (by kernel_rfl) (by kernel_rfl) (fun _ _ _ h => h) (Or.inr ⟨by rfl, rfl⟩) (by assumption) ?_
        try simp only [Act.put, List.setIfInBounds_toArray, List.set_cons_zero, List.set_cons_succ]
        refine wpAnyH_take (i := 11) (oi := { dst := some 70, op := Op.binOp BinOp.gtr 3 (Operand.tmp 69) (Operand.const (Value.int IntKind.i64 0)) 3, type := 4, pos := "spaces.go:102", after := #[{ on := 10, ground := Ground.data }, { on := 5, ground := Ground.guard }], guard := some (5, true) }) (v := undef) rfl (by kernel_rfl) (by kernel_rfl) (by kernel_rfl) (fun _ _ _ h => h) (Or.inr ⟨by rfl, rfl⟩) (by assumption) ?_
        try simp only [Act.put, List.setIfInBounds_toArray, List.set_cons_zero, List.set_cons_succ]
        refine wpAnyH_take (i := 12) (oi := { dst := some 71, op := Op.pick (Operand.tmp 64) (Operand.tmp 70) (Operand.const (Value.bool false)), type := 4, pos := "spaces.go:102", after := #[{ on := 5, ground := Ground.data }, { on := 11, ground := Ground.data }, { on := 18, ground := Ground.gcOnly Departure.lateStores }], guard := none }) (v := ?_) rfl (by kernel_rfl) (by kernel_rfl) (by kernel_rfl) (fun _ _ _ h => h) (Or.inl ⟨by rfl, ?_⟩) (by assumption) ?_
        rotate_left
        focus (intro w hSw; (try dsimp only at hSw); go_simp <;> with_reducible rfl)
        try simp only [Act.put, List.setIfInBounds_toArray, List.set_cons_zero, List.set_cons_succ]
        refine wpAnyH_take (i := 13) (oi := { dst := some 72, op := Op.nilCheck (Operand.tmp 59), type := 0, pos := "spaces.go:102", after := #[{ on := 0, ground := Ground.data }, { on := 0, ground := Ground.phase }, { on := 1, ground := Ground.textOnly Departure.lateStores }, { on := 2, ground := Ground.textOnly Departure.lateStores }, { on := 3, ground := Ground.textOnly Departure.lateStores }, { on := 4, ground := Ground.textOnly Departure.lateStores }, { on := 5, ground := Ground.textOnly Departure.lateStores }, { on := 6, ground := Ground.textOnly Departure.lateStores }, { on := 7, ground := Ground.textOnly Departure.lateStoresUnsure }, { on := 8, ground := Ground.textOnly Departure.lateStores }, { on := 9, ground := Ground.phase }, { on := 10, ground := Ground.textOnly Departure.lateStoresUnsure }, { on := 11, ground := Ground.textOnly Departure.lateStoresUnsure }, { on := 12, ground := Ground.textOnly Departure.lateStores }], guard := none }) (v := ?_) rfl (by kernel_rfl) (by kernel_rfl) (by kernel_rfl) (fun _ _ _ h => h) (Or.inl ⟨by rfl, ?_⟩) (by assumption) ?_
        rotate_left
        focus (intro w hSw; (try dsimp only at hSw); go_simp <;> with_reducible rfl)
        try simp only [Act.put, List.setIfInBounds_toArray, List.set_cons_zero, List.set_cons_succ]
        refine wpAnyH_take (i := 14) (oi := { dst := some 73, op := Op.fieldAddr 94 (Operand.tmp 72) 1, type := 0, pos := "spaces.go:102", after := #[{ on := 13, ground := Ground.data }, { on := 0, ground := Ground.phase }, { on := 1, ground := Ground.textOnly Departure.lateStores }, { on := 2, ground := Ground.textOnly Departure.lateStores }, { on := 3, ground := Ground.textOnly Departure.lateStores }, { on := 4, ground := Ground.textOnly Departure.lateStores }, { on := 5, ground := Ground.textOnly Departure.lateStores }, { on := 6, ground := Ground.textOnly Departure.lateStores }, { on := 7, ground := Ground.textOnly Departure.lateStoresUnsure }, { on := 8, ground := Ground.textOnly Departure.lateStores }, { on := 9, ground := Ground.phase }, { on := 10, ground := Ground.textOnly Departure.lateStoresUnsure }, { on := 11, ground := Ground.textOnly Departure.lateStoresUnsure }, { on := 12, ground := Ground.textOnly Departure.lateStores }], guard := none }) (v := ?_) rfl (by kernel_rfl) (by kernel_rfl) (by kernel_rfl) (fun _ _ _ h => h) (Or.inl ⟨by rfl, ?_⟩) (by assumption) ?_
        rotate_left
        focus (intro w hSw; (try dsimp only at hSw); go_simp <;> with_reducible rfl)
        try simp only [Act.put, List.setIfInBounds_toArray, List.set_cons_zero, List.set_cons_succ]
        refine wpAnyH_ready (rs := [15]) (by kernel_rfl) (by simp) ?_
        refine AllReadyH.cons (o := { dst := none, op := Op.store 4 (Operand.tmp 73) (Operand.const (Value.bool true)), type := 0, pos := "spaces.go:102", after := #[{ on := 14, ground := Ground.data }, { on := 5, ground := Ground.chain }, { on := 0, ground := Ground.phase }, { on := 1, ground := Ground.textOnly Departure.lateStores }, { on := 2, ground := Ground.textOnly Departure.lateStores }, { on := 3, ground := Ground.textOnly Departure.lateStores }, { on := 4, ground := Ground.textOnly Departure.lateStores }, { on := 5, ground := Ground.textOnly Departure.lateStores }, { on := 6, ground := Ground.textOnly Departure.lateStores }, { on := 7, ground := Ground.textOnly Departure.lateStoresUnsure }, { on := 8, ground := Ground.textOnly Departure.lateStores }, { on := 9, ground := Ground.phase }, { on := 10, ground := Ground.textOnly Departure.lateStoresUnsure }, { on := 11, ground := Ground.textOnly Departure.lateStoresUnsure }, { on := 12, ground := Ground.textOnly Departure.lateStores }], guard := none }) rfl (fun K hK => ?_) AllReadyH.nil
        go_simp
        generalize hz3 : World.setCell z2 _ _ = z3
        have hk3 : Keep [q] z2 z3 := by rw [← hz3]; exact keepSet (Keep.refl _ _) (by simp) _ _
        have b6 := hk3.cell hHeld.2.1 (by simpa using hbq)
        have b7 := hk3.cell hHeld.2.2 (by simpa using hbq)
        have b8 : z3.cell? ⟨q, 45, none⟩ = some (.slice ea 4 ec) := by rw [← hz3]; exact cell_far (by have := HLN.out; omega) hHeld.1
        have q3' : z3.cell? ⟨q, 3 + n * 5 + 3, none⟩ = some (.int .u32 (A.kp n : Nat)) := by rw [← hz3]; exact cell_far (by omega) q3
        have q4' : z3.cell? ⟨q, 3 + n * 5 + 3 + 1, none⟩ = some (.int .u32 (A.kr n : Nat)) := by rw [← hz3]; exact cell_far (by omega) q4
        have q2' : z3.cell? ⟨q, 3 + n * 5 + 2, none⟩ = some (.bool (A.us n)) := by rw [← hz3]; exact cell_far (by omega) q2
        have g3' : z3.frozen? ⟨q, 3 + n * 5 + 3, none⟩ = false := by rw [← hz3]; simpa using g3
        have g4' : z3.frozen? ⟨q, 3 + n * 5 + 3 + 1, none⟩ = false := by rw [← hz3]; simpa using g4
        have g2' : z3.frozen? ⟨q, 3 + n * 5 + 2, none⟩ = false := by rw [← hz3]; simpa using g2
        have HZ3 : Hid (z3 = z2.setCell ⟨q, 3 + n * 5 + 1, none⟩ (.bool true)) := Lib.hid hz3.symm
        clear hz3 q1 q2 q3 q4 g1 g2 g3 g4 hk3 q0
        refine shut_grow (fun u => u.cell? ⟨q, 45, none⟩ = some (.slice ea 4 ec) ∧ u.cell? ⟨bx, 0, none⟩ = some (.int .u32 kp) ∧ u.cell? ⟨bx, 1, none⟩ = some (.int .u32 kr)) hK (fun _ h => h) ⟨b8, b6, b7⟩ (fun hHeld => ?_)
        clear hK K
        refine wpAnyH_take (i := 16) (oi := { dst := some 74, op := Op.nilCheck (Operand.tmp 60), type := 0, pos := "spaces.go:102", after := #[{ on := 1, ground := Ground.data }, { on := 0, ground := Ground.phase }, { on := 1, ground := Ground.phase }, { on := 2, ground := Ground.textOnly Departure.lateStores }, { on := 3, ground := Ground.phase }, { on := 4, ground := Ground.textOnly Departure.lateStores }, { on := 5, ground := Ground.textOnly Departure.lateStores }, { on := 6, ground := Ground.textOnly Departure.lateStores }, { on := 7, ground := Ground.textOnly Departure.lateStoresUnsure }, { on := 8, ground := Ground.textOnly Departure.lateStores }, { on := 9, ground := Ground.phase }, { on := 10, ground := Ground.textOnly Departure.lateStoresUnsure }, { on := 11, ground := Ground.textOnly Departure.lateStoresUnsure }, { on := 12, ground := Ground.textOnly Departure.lateStores }, { on := 13, ground := Ground.phase }, { on := 14, ground := Ground.phase }, { on := 15, ground := Ground.phase }], guard := none }) (v := ?_) rfl (by kernel_rfl) (by kernel_rfl) (by kernel_rfl) (fun _ _ _ h => h) (Or.inl ⟨by rfl, ?_⟩) (by assumption) ?_
        rotate_left
        focus (intro w hSw; (try dsimp only at hSw); go_simp <;> with_reducible rfl)
        try simp only [Act.put, List.setIfInBounds_toArray, List.set_cons_zero, List.set_cons_succ]
        refine wpAnyH_take (i := 17) (oi := { dst := some 75, op := Op.fieldAddr 94 (Operand.tmp 74) 3, type := 0, pos := "spaces.go:102", after := #[{ on := 16, ground := Ground.data }, { on := 0, ground := Ground.phase }, { on := 1, ground := Ground.phase }, { on := 2, ground := Ground.textOnly Departure.lateStores }, { on := 3, ground := Ground.phase }, { on := 4, ground := Ground.textOnly Departure.lateStores }, { on := 5, ground := Ground.textOnly Departure.lateStores }, { on := 6, ground := Ground.textOnly Departure.lateStores }, { on := 7, ground := Ground.textOnly Departure.lateStoresUnsure }, { on := 8, ground := Ground.textOnly Departure.lateStores }, { on := 9, ground := Ground.phase }, { on := 10, ground := Ground.textOnly Departure.lateStoresUnsure }, { on := 11, ground := Ground.textOnly Departure.lateStoresUnsure }, { on := 12, ground := Ground.textOnly Departure.lateStores }, { on := 13, ground := Ground.phase }, { on := 14, ground := Ground.phase }, { on := 15, ground := Ground.phase }], guard := none }) (v := ?_) rfl (by kernel_rfl) (by kernel_rfl) (by kernel_rfl) (fun _ _ _ h => h) (Or.inl ⟨by rfl, ?_⟩) (by assumption) ?_
        rotate_left
        focus (intro w hSw; (try dsimp only at hSw); go_simp <;> with_reducible rfl)
        try simp only [Act.put, List.setIfInBounds_toArray, List.set_cons_zero, List.set_cons_succ]
        refine wpAnyH_ready (rs := [18]) (by kernel_rfl) (by simp) ?_
        refine AllReadyH.cons (o := { dst := none, op := Op.store 70 (Operand.tmp 75) (Operand.tmp 62), type := 0, pos := "spaces.go:102", after := #[{ on := 17, ground := Ground.data }, { on := 3, ground := Ground.data }, { on := 15, ground := Ground.chain }, { on := 0, ground := Ground.phase }, { on := 1, ground := Ground.phase }, { on := 2, ground := Ground.textOnly Departure.lateStores }, { on := 3, ground := Ground.phase }, { on := 4, ground := Ground.textOnly Departure.lateStores }, { on := 5, ground := Ground.textOnly Departure.lateStores }, { on := 6, ground := Ground.textOnly Departure.lateStores }, { on := 7, ground := Ground.textOnly Departure.lateStoresUnsure }, { on := 8, ground := Ground.textOnly Departure.lateStores }, { on := 9, ground := Ground.phase }, { on := 10, ground := Ground.textOnly Departure.lateStoresUnsure }, { on := 11, ground := Ground.textOnly Departure.lateStoresUnsure }, { on := 12, ground := Ground.textOnly Departure.lateStores }, { on := 13, ground := Ground.phase }, { on := 14, ground := Ground.phase }, { on := 15, ground := Ground.phase }], guard := none }) rfl (fun K hK => ?_) AllReadyH.nil
        go_simp
        generalize hz4 : World.setCell (World.setCell z3 _ _) _ _ = z4
        have hk4 : Keep [q] z3 z4 := by rw [← hz4]; exact keepSet (keepSet (Keep.refl _ _) (by simp) _ _) (by simp) _ _
        have b6' := hk4.cell b6 (by simpa using hbq)
        have b7' := hk4.cell b7 (by simpa using hbq)
        have b8' : z4.cell? ⟨q, 45, none⟩ = some (.slice ea 4 ec) := by rw [← hz4]; exact cell_far (by have := HLN.out; omega) (cell_far (by have := HLN.out; omega) b8)
        have q2'' : z4.cell? ⟨q, 3 + n * 5 + 2, none⟩ = some (.bool (A.us n)) := by rw [← hz4]; exact cell_far (by omega) (cell_far (by omega) q2')
        have g2'' : z4.frozen? ⟨q, 3 + n * 5 + 2, none⟩ = false := by rw [← hz4]; simpa using g2'
        have HZ4 : Hid (z4 = (z3.setCell ⟨q, 3 + n * 5 + 3, none⟩ (.int .u32 kp)).setCell ⟨q, 3 + n * 5 + 3 + 1, none⟩ (.int .u32 kr)) := Lib.hid hz4.symm
        clear hz4 hk4 q2' q3' q4' g2' g3' g4' b6 b7 b8
        refine shut_grow (fun u => u.cell? ⟨q, 45, none⟩ = some (.slice ea 4 ec) ∧ u.cell? ⟨bx, 0, none⟩ = some (.int .u32 kp) ∧ u.cell? ⟨bx, 1, none⟩ = some (.int .u32 kr)) hK (fun _ h => h) ⟨b8', b6', b7'⟩ (fun hHeld => ?_)
        clear hK K
        refine wpAnyH_take (i := 19) (oi := { dst := some 76, op := Op.nilCheck (Operand.tmp 61), type := 0, pos := "spaces.go:102", after := #[{ on := 2, ground := Ground.data }, { on := 0, ground := Ground.phase }, { on := 1, ground := Ground.phase }, { on := 2, ground := Ground.phase }, { on := 3, ground := Ground.phase }, { on := 4, ground := Ground.phase }, { on := 5, ground := Ground.phase }, { on := 6, ground := Ground.phase }, { on := 7, ground := Ground.phase }, { on := 8, ground := Ground.phase }, { on := 9, ground := Ground.phase }, { on := 10, ground := Ground.phase }, { on := 11, ground := Ground.phase }, { on := 12, ground := Ground.phase }, { on := 13, ground := Ground.phase }, { on := 14, ground := Ground.phase }, { on := 15, ground := Ground.phase }, { on := 16, ground := Ground.phase }, { on := 17, ground := Ground.phase }, { on := 18, ground := Ground.phase }], guard := none }) (v := ?_) rfl (by kernel_rfl) (by kernel_rfl) (by kernel_rfl) (fun _ _ _ h => h) (Or.inl ⟨by rfl, ?_⟩) (by assumption) ?_
        rotate_left
        focus (intro w hSw; (try dsimp only at hSw); go_simp <;> with_reducible rfl)
        try simp only [Act.put, List.setIfInBounds_toArray, List.set_cons_zero, List.set_cons_succ]
        refine wpAnyH_take (i := 20) (oi := { dst := some 77, op := Op.fieldAddr 94 (Operand.tmp 76) 2, type := 0, pos := "spaces.go:102", after := #[{ on := 19, ground := Ground.data }, { on := 0, ground := Ground.phase }, { on := 1, ground := Ground.phase }, { on := 2, ground := Ground.phase }, { on := 3, ground := Ground.phase }, { on := 4, ground := Ground.phase }, { on := 5, ground := Ground.phase }, { on := 6, ground := Ground.phase }, { on := 7, ground := Ground.phase }, { on := 8, ground := Ground.phase }, { on := 9, ground := Ground.phase }, { on := 10, ground := Ground.phase }, { on := 11, ground := Ground.phase }, { on := 12, ground := Ground.phase }, { on := 13, ground := Ground.phase }, { on := 14, ground := Ground.phase }, { on := 15, ground := Ground.phase }, { on := 16, ground := Ground.phase }, { on := 17, ground := Ground.phase }, { on := 18, ground := Ground.phase }], guard := none }) (v := ?_) rfl (by kernel_rfl) (by kernel_rfl) (by kernel_rfl) (fun _ _ _ h => h) (Or.inl ⟨by rfl, ?_⟩) (by assumption) ?_
        rotate_left
        focus (intro w hSw; (try dsimp only at hSw); go_simp <;> with_reducible rfl)
        try simp only [Act.put, List.setIfInBounds_toArray, List.set_cons_zero, List.set_cons_succ]
        refine wpAnyH_ready (rs := [21]) (by kernel_rfl) (by simp) ?_
        refine AllReadyH.cons (o := { dst := none, op := Op.store 4 (Operand.tmp 77) (Operand.tmp 71), type := 0, pos := "spaces.go:102", after := #[{ on := 20, ground := Ground.data }, { on := 12, ground := Ground.data }, { on := 18, ground := Ground.chain }, { on := 0, ground := Ground.phase }, { on := 1, ground := Ground.phase }, { on := 2, ground := Ground.phase }, { on := 3, ground := Ground.phase }, { on := 4, ground := Ground.phase }, { on := 5, ground := Ground.phase }, { on := 6, ground := Ground.phase }, { on := 7, ground := Ground.phase }, { on := 8, ground := Ground.phase }, { on := 9, ground := Ground.phase }, { on := 10, ground := Ground.phase }, { on := 11, ground := Ground.phase }, { on := 12, ground := Ground.phase }, { on := 13, ground := Ground.phase }, { on := 14, ground := Ground.phase }, { on := 15, ground := Ground.phase }, { on := 16, ground := Ground.phase }, { on := 17, ground := Ground.phase }, { on := 18, ground := Ground.phase }], guard := none }) rfl (fun K hK => ?_) AllReadyH.nil
        go_simp
        generalize hz5 : World.setCell z4 _ _ = z5
        have HZ5 : Hid (∃ f', QAt z5 q r fb g p pm ns sh (A.take n kp kr false) (youngL age n) true kept (lost + 1) f' ga gc ea ec ∧ Keep [q] z2 z5) := Lib.hid (HQ2.out.take HLN.out.1 kp kr false (by rw [← hz5, HZ4.out, HZ3.out]))
        have hk5 : Keep [q] z4 z5 := by rw [← hz5]; exact keepSet (Keep.refl _ _) (by simp) _ _
        have b6 := hk5.cell b6' (by simpa using hbq)
        have b7 := hk5.cell b7' (by simpa using hbq)
        have b8 : z5.cell? ⟨q, 45, none⟩ = some (.slice ea 4 ec) := by rw [← hz5]; exact cell_far (by have := HLN.out; omega) b8'
        clear hz5 hk5 b6' b7' b8' q2'' g2''
        refine shut_grow (fun u => u = z5) hK (fun _ h => by rw [h]; exact ⟨b8, b6, b7⟩) rfl (fun hHeld => ?_)
        clear hK K
        refine wpAnyH_done (by kernel_rfl) ?_ _
        clear hHeld
        obtain ⟨f5, hQ5, hK5⟩ := HZ5.out
        have hK6 : Keep [q, ga] w1 z5 := HZ.out.2.2.trans ((HZ2.out.weaken (by simp)).trans (hK5.weaken (by simp)))
        have hM5 := HW1.out.1.own (fun j hj => by simpa using hj) hK6
        have H5 := Lib.hid (And.intro hQ5 (And.intro hM5 hK6))
        obtain ⟨q0, -⟩ := hQ5.space (k := n) (by have := HLN.out; omega)
        rw [if_pos HLN.out.1] at q0
        clear hQ5 hK5 hM5 hK6 b6 b7
        go_wp2_with fail
        refine (mclear_at H5.out.2.1 HLN.out.1).mono ?_
        rintro e z6 ⟨⟨v6, rfl⟩, HC⟩
        have H6 : Hid (∃ L' lent' f', MAt z6 sh uv r fb g p pm most ns (setSh T n fun _ => tab0) up L' lent' c ∧ QAt z6 q r fb g p pm ns sh (A.take n kp kr false) (youngL age n) true kept (lost + 1) f' ga gc ea ec ∧ Keep [sh n, g, p, pm] z5 z6) := Lib.hid (by
          obtain ⟨L', lent', h1, h2⟩ := HC.out
          have hnq := HS.out.nq
          simp only [List.mem_cons, List.mem_map, List.mem_range, not_or, not_exists, not_and] at hnq
          refine ⟨L', lent', f5, h1, H5.out.1.nbs h2 (fun z hz => ?_), h2⟩
          simp only [List.mem_cons, List.not_mem_nil, or_false] at hz
          rcases hz with rfl | rfl | rfl | rfl
          · exact ⟨by simp only [qNb, List.mem_cons, List.mem_map, List.mem_range]; exact .inr (.inr (.inr (.inr (.inr (.inr ⟨n, HLN.out.1, rfl⟩))))), hnq.2.2.2.2.2 n HLN.out.1⟩
          · exact ⟨by simp [qNb], fun e => hnq.2.2.1 e.symm⟩
          · exact ⟨by simp [qNb], fun e => hnq.2.2.2.1 e.symm⟩
          · exact ⟨by simp [qNb], fun e => hnq.2.2.2.2.1 e.symm⟩)
        clear HC q0 b8
        have HFIN : Hid (∀ (e : Ending) (z7 : World), e = .returned (.bool true) ∧ Hid (∃ uv' L', (∃ lent', MAt z7 sh uv' r fb g p pm most ns (setSh T n fun _ => tab0) (setUp up n false) L' lent' c) ∧ (∀ m, m < ns → setUp up n false m = true → ∀ z, (uv' m).ownBlock = some z → (m ≠ n ∧ (uv m).ownBlock = some z) ∨ z6.heap.size ≤ z) ∧ Keep [sh n, g] z6 z7) → SelPost (fun z => UvIn uv up ns z ∨ x.heap.size ≤ z) q r fb g p pm most ns sh T up c A age kept lost ga gc ea ec kp kr false x (.returned (.bool false)) z7) := Lib.hid (by
          rintro e z7 ⟨-, HU⟩
          obtain ⟨uv', L7, ⟨lent7, hM7⟩, hub, hK7⟩ := HU.out
          obtain ⟨L', lent', f6, hM6, hQ6, hK6⟩ := H6.out
          have hnq := HS.out.nq
          simp only [List.mem_cons, List.mem_map, List.mem_range, not_or, not_exists, not_and] at hnq
          have hQ7 := hQ6.nbs hK7 (fun z hz => by
            simp only [List.mem_cons, List.not_mem_nil, or_false] at hz
            rcases hz with rfl | rfl
            · exact ⟨by simp only [qNb, List.mem_cons, List.mem_map, List.mem_range]; exact .inr (.inr (.inr (.inr (.inr (.inr ⟨n, HLN.out.1, rfl⟩))))), hnq.2.2.2.2.2 n HLN.out.1⟩
            · exact ⟨by simp [qNb], fun e => hnq.2.2.1 e.symm⟩)
          have hsn : sh n ∈ pwl q ga g p pm ns sh := by
            simp only [pwl, List.mem_cons, List.mem_map, List.mem_range]; exact .inr (.inr (.inr (.inr (.inr ⟨n, HLN.out.1, rfl⟩))))
          have hKx5 : Keep [q, ga] x z5 := (HW1.out.2.1.weaken (by simp)).trans H5.out.2.2
          have hKx6 : Keep (pwl q ga g p pm ns sh) x z6 := (hKx5.weaken (by intro k hk _; simp only [List.mem_cons, List.not_mem_nil, or_false] at hk; rcases hk with rfl | rfl <;> simp [pwl])).trans (hK6.weaken (by
            intro k hk _
            simp only [List.mem_cons, List.not_mem_nil, or_false] at hk
            rcases hk with rfl | rfl | rfl | rfl
            · exact hsn
            · simp [pwl]
            · simp [pwl]
            · simp [pwl]))
          have hKx : Keep (pwl q ga g p pm ns sh) x z7 := hKx6.trans (hK7.weaken (by
            intro k hk _
            simp only [List.mem_cons, List.not_mem_nil, or_false] at hk
            rcases hk with rfl | rfl
            · exact hsn
            · simp [pwl]))
          obtain ⟨h0, hn0⟩ := HN.out
          obtain ⟨-, -, -, cug, hcug⟩ := HS.out.qq.ageCell
          have hgl := lt_of_heap hcug
          have hql := HS.out.qq.ltb q (by simp [qNb])
          refine ⟨false, A.take n kp kr false, youngL age n, setSh T n (fun _ => tab0), setUp up n false, kept, lost + 1, rfl, .inr ⟨HNO.out, rfl, h0, by rw [← hn0], by rw [← hn0], by rw [← hn0], by rw [← hn0], rfl, rfl⟩, ⟨uv', L7, lent7, f6, ⟨hM7, hQ7, fun m hm => ?_, HS.out.nq, fun m hm hup bb hb => ?_, fun b o hb => Nat.lt_of_lt_of_le (HS.out.eb b o hb) hKx.size⟩, fun m hm hup bb hb => ?_⟩, hKx⟩
          · show updN A.us n false m = setUp up n false m
            unfold updN setUp
            by_cases hmn : m = n
            · rw [if_pos hmn, if_pos hmn]
            · rw [if_neg hmn, if_neg hmn, HS.out.us m hm]
          · rcases hub m hm hup bb hb with ⟨h1, h2⟩ | h1
            · rw [setUp_ne h1] at hup
              exact HS.out.au m hm hup bb h2
            · have := hKx6.size
              exact ⟨by omega, by omega⟩
          · rcases hub m hm hup bb hb with ⟨h1, h2⟩ | h1
            · rw [setUp_ne h1] at hup
              exact .inl ⟨m, hm, hup, h2⟩
            · have := hKx6.size
              exact .inr (by omega))
        obtain ⟨L', lent', f6, hM6, hQ6, -⟩ := H6.out
        obtain ⟨q0, -⟩ := hQ6.space (k := n) (by have := HLN.out; omega)
        rw [if_pos HLN.out.1] at q0
        obtain ⟨-, -, -, -, -, d5, -, -⟩ := hQ6.cells
        have HU := Lib.hid (mupper_at hM6 HLN.out.1 setSh_same false (ea := none) (ec := 0) ⟨by simp [upL], by simp [upL], .inl rfl⟩ (fun _ => ⟨rfl, rfl⟩))
        clear hM6 hQ6 d5
        go_wp2_with fail
        refine HU.out.mono ?_
        rintro e z7 ⟨rfl, HU7⟩
        have HF := Lib.hid (HFIN.out (.returned (.bool true)) z7 ⟨rfl, Lib.hid (by obtain ⟨a, b, h1, h2, h3⟩ := HU7.out; exact ⟨a, b, ⟨_, h1⟩, h2, h3⟩)⟩)
        clear HU7 HFIN
        go_wp2_with fail
        go_ret
        exact HF.out
      · go_wp2_with fail
        refine wp_region_held_drew (S := fun u => u.cell? ⟨q, 45, none⟩ = some (.slice ea 4 ec) ∧ u.cell? ⟨bx, 0, none⟩ = some (.int .u32 kp) ∧ u.cell? ⟨bx, 1, none⟩ = some (.int .u32 kr)) (by kernel_rfl) ⟨d5, k0, k1⟩ (fun hHeld => ?_)
        skip
        generalize hz2 : World.drew z = z2 at hHeld ⊢
        have HZ2 : Hid (Keep [] z z2) := Lib.hid (by subst hz2; exact (Keep.refl [] z).drew)
        clear hz2 d5 k0 k1
        have HQ2 := Lib.hid (HZ.out.1.keep0 HZ2.out)
        obtain ⟨q0, q1, q2, q3, q4⟩ := HQ2.out.space (k := n) (by have := HLN.out; omega)
        have g1 := ArrAt.frozen HQ2.out.arr (3 + n * 5 + 1)
        have g2 := ArrAt.frozen HQ2.out.arr (3 + n * 5 + 2)
        have g3 := ArrAt.frozen HQ2.out.arr (3 + n * 5 + 3)
        have g4 := ArrAt.frozen HQ2.out.arr (3 + n * 5 + 4)
        refine wpAnyH_take (i := 0) (oi := { dst := some 59, op := Op.move (Operand.tmp 9), type := 131, pos := "spaces.go:102", after := #[], guard := none }) (v := ?_) rfl (by kernel_rfl) (by kernel_rfl) (by kernel_rfl) (fun _ _ _ h => h) (Or.inl ⟨by rfl, ?_⟩) (by assumption) ?_
        rotate_left
        focus (intro w hSw; (try dsimp only at hSw); go_simp <;> with_reducible rfl)
        try simp only [Act.put, List.setIfInBounds_toArray, List.set_cons_zero, List.set_cons_succ]
        refine wpAnyH_take (i := 1) (oi := { dst := some 60, op := Op.move (Operand.tmp 9), type := 131, pos := "spaces.go:102", after := #[{ on := 15, ground := Ground.gcOnly Departure.lateStores }], guard := none }) (v := ?_) rfl (by kernel_rfl) (by kernel_rfl) (by kernel_rfl) (fun _ _ _ h => h) (Or.inl ⟨by rfl, ?_⟩) (by assumption) ?_
        rotate_left
        focus (intro w hSw; (try dsimp only at hSw); go_simp <;> with_reducible rfl)
        try simp only [Act.put, List.setIfInBounds_toArray, List.set_cons_zero, List.set_cons_succ]
        refine wpAnyH_take (i := 2) (oi := { dst := some 61, op := Op.move (Operand.tmp 9), type := 131, pos := "spaces.go:102", after := #[{ on := 18, ground := Ground.gcOnly Departure.lateStores }], guard := none }) (v := ?_) rfl (by kernel_rfl) (by kernel_rfl) (by kernel_rfl) (fun _ _ _ h => h) (Or.inl ⟨by rfl, ?_⟩) (by assumption) ?_
        rotate_left
        focus (intro w hSw; (try dsimp only at hSw); go_simp <;> with_reducible rfl)
        try simp only [Act.put, List.setIfInBounds_toArray, List.set_cons_zero, List.set_cons_succ]
        refine wpAnyH_take (i := 3) (oi := { dst := some 62, op := Op.load 70 (Operand.tmp 4), type := 70, pos := "spaces.go:102", after := #[{ on := 15, ground := Ground.gcOnly Departure.lateStores }], guard := none }) (v := ?_) rfl (by kernel_rfl) (by kernel_rfl) (by kernel_rfl) (fun _ _ _ h => h) (Or.inl ⟨by rfl, ?_⟩) (by assumption) ?_
        rotate_left
        focus (intro w hSw; (try dsimp only at hSw); go_simp <;> with_reducible rfl)
        try simp only [Act.put, List.setIfInBounds_toArray, List.set_cons_zero, List.set_cons_succ]
        refine wpAnyH_take (i := 4) (oi := { dst := some 63, op := Op.move (Operand.tmp 2), type := 4, pos := "spaces.go:102", after := #[], guard := none }) (v := ?_) rfl (by kernel_rfl) (by kernel_rfl) (by kernel_rfl) (fun _ _ _ h => h) (Or.inl ⟨by rfl, ?_⟩) (by assumption) ?_
        rotate_left
        focus (intro w hSw; (try dsimp only at hSw); go_simp <;> with_reducible rfl)
        try simp only [Act.put, List.setIfInBounds_toArray, List.set_cons_zero, List.set_cons_succ]
        refine wpAnyH_take (i := 5) (oi := { dst := some 64, op := Op.move (Operand.tmp 63), type := 4, pos := "spaces.go:102", after := #[{ on := 4, ground := Ground.data }], guard := none }) (v := ?_) rfl (by kernel_rfl) (by kernel_rfl) (by kernel_rfl) (fun _ _ _ h => h) (Or.inl ⟨by rfl, ?_⟩) (by assumption) ?_
        rotate_left
        focus (intro w hSw; (try dsimp only at hSw); go_simp <;> with_reducible rfl)
        try simp only [Act.put, List.setIfInBounds_toArray, List.set_cons_zero, List.set_cons_succ]
        refine wpAnyH_take (i := 6) (oi := { dst := some 65, op := Op.move (Operand.tmp 0), type := 75, pos := "spaces.go:102", after := #[{ on := 5, ground := Ground.guard }], guard := some (5, true) }) (v := ?_) rfl (by kernel_rfl) (by kernel_rfl) (by kernel_rfl) (fun _ _ _ h => h) (Or.inl ⟨by rfl, ?_⟩) (by assumption) ?_
        rotate_left
        focus (intro w hSw; (try dsimp only at hSw); go_simp <;> with_reducible rfl)
        try simp only [Act.put, List.setIfInBounds_toArray, List.set_cons_zero, List.set_cons_succ]
        refine wpAnyH_take (i := 7) (oi := { dst := some 66, op := Op.nilCheck (Operand.tmp 65), type := 0, pos := "spaces.go:102", after := #[{ on := 6, ground := Ground.data }, { on := 5, ground := Ground.guard }], guard := some (5, true) }) (v := ?_) rfl (by kernel_rfl) (by kernel_rfl) (by kernel_rfl) (fun _ _ _ h => h) (Or.inl ⟨by rfl, ?_⟩) (by assumption) ?_
        rotate_left
        focus (intro w hSw; (try dsimp only at hSw); go_simp <;> with_reducible rfl)
        try simp only [Act.put, List.setIfInBounds_toArray, List.set_cons_zero, List.set_cons_succ]
        refine wpAnyH_take (i := 8) (oi := { dst := some 67, op := Op.fieldAddr 102 (Operand.tmp 66) 6, type := 0, pos := "spaces.go:102", after := #[{ on := 7, ground := Ground.data }, { on := 5, ground := Ground.guard }], guard := some (5, true) }) (v := ?_) rfl (by kernel_rfl) (by kernel_rfl) (by kernel_rfl) (fun _ _ _ h => h) (Or.inl ⟨by rfl, ?_⟩) (by assumption) ?_
        rotate_left
        focus (intro w hSw; (try dsimp only at hSw); go_simp <;> with_reducible rfl)
        try simp only [Act.put, List.setIfInBounds_toArray, List.set_cons_zero, List.set_cons_succ]
        refine wpAnyH_take (i := 9) (oi := { dst := some 68, op := Op.load 44 (Operand.tmp 67), type := 44, pos := "spaces.go:102", after := #[{ on := 8, ground := Ground.data }, { on := 5, ground := Ground.guard }], guard := some (5, true) }) (v := ?_) rfl (by kernel_rfl) (by kernel_rfl) (by kernel_rfl) (fun _ _ _ h => h) (Or.inl ⟨by rfl, ?_⟩) (by assumption) ?_
        rotate_left
        focus (intro w hSw; (try dsimp only at hSw); go_simp <;> with_reducible rfl)
        try simp only [Act.put, List.setIfInBounds_toArray, List.set_cons_zero, List.set_cons_succ]
        refine wpAnyH_take (i := 10) (oi := { dst := some 69, op := Op.call { callee := Callee.builtin Builtin.len, args := #[Operand.tmp 68], argTypes := #[44] }, type := 3, pos := "spaces.go:102", after := #[{ on := 9, ground := Ground.data }, { on := 5, ground := Ground.guard }], guard := some (5, true) }) (v := ?_) rfl (by kernel_rfl) (by kernel_rfl) (by kernel_rfl) (fun _ _ _ h => h) (Or.inl ⟨by rfl, ?_⟩) (by assumption) ?_
        rotate_left
        focus (intro w hSw; (try dsimp only at hSw); go_simp <;> with_reducible rfl)
        try simp only [Act.put, List.setIfInBounds_toArray, List.set_cons_zero, List.set_cons_succ]
        refine wpAnyH_take (i := 11) (oi := { dst := some 70, op := Op.binOp BinOp.gtr 3 (Operand.tmp 69) (Operand.const (Value.int IntKind.i64 0)) 3, type := 4, pos := "spaces.go:102", after := #[{ on := 10, ground := Ground.data }, { on := 5, ground := Ground.guard }], guard := some (5, true) }) (v := ?_) rfl (by kernel_rfl) (by kernel_rfl) (by kernel_rfl) (fun _ _ _ h => h) (Or.inl ⟨by rfl, ?_⟩) (by assumption) ?_
        rotate_left
        focus (intro w hSw; (try dsimp only at hSw); go_simp <;> with_reducible rfl)
        try simp only [Act.put, List.setIfInBounds_toArray, List.set_cons_zero, List.set_cons_succ]
        refine wpAnyH_take (i := 12) (oi := { dst := some 71, op := Op.pick (Operand.tmp 64) (Operand.tmp 70) (Operand.const (Value.bool false)), type := 4, pos := "spaces.go:102", after := #[{ on := 5, ground := Ground.data }, { on := 11, ground := Ground.data }, { on := 18, ground := Ground.gcOnly Departure.lateStores }], guard := none }) (v := ?_) rfl (by kernel_rfl) (by kernel_rfl) (by kernel_rfl) (fun _ _ _ h => h) (Or.inl ⟨by rfl, ?_⟩) (by assumption) ?_
        rotate_left
        focus (intro w hSw; (try dsimp only at hSw); go_simp <;> with_reducible rfl)
        try simp only [Act.put, List.setIfInBounds_toArray, List.set_cons_zero, List.set_cons_succ]
        refine wpAnyH_take (i := 13) (oi := { dst := some 72, op := Op.nilCheck (Operand.tmp 59), type := 0, pos := "spaces.go:102", after := #[{ on := 0, ground := Ground.data }, { on := 0, ground := Ground.phase }, { on := 1, ground := Ground.textOnly Departure.lateStores }, { on := 2, ground := Ground.textOnly Departure.lateStores }, { on := 3, ground := Ground.textOnly Departure.lateStores }, { on := 4, ground := Ground.textOnly Departure.lateStores }, { on := 5, ground := Ground.textOnly Departure.lateStores }, { on := 6, ground := Ground.textOnly Departure.lateStores }, { on := 7, ground := Ground.textOnly Departure.lateStoresUnsure }, { on := 8, ground := Ground.textOnly Departure.lateStores }, { on := 9, ground := Ground.phase }, { on := 10, ground := Ground.textOnly Departure.lateStoresUnsure }, { on := 11, ground := Ground.textOnly Departure.lateStoresUnsure }, { on := 12, ground := Ground.textOnly Departure.lateStores }], guard := none }) (v := ?_) rfl (by kernel_rfl) (by kernel_rfl) (by kernel_rfl) (fun _ _ _ h => h) (Or.inl ⟨by rfl, ?_⟩) (by assumption) ?_
        rotate_left
        focus (intro w hSw; (try dsimp only at hSw); go_simp <;> with_reducible rfl)
        try simp only [Act.put, List.setIfInBounds_toArray, List.set_cons_zero, List.set_cons_succ]
        refine wpAnyH_take (i := 14) (oi := { dst := some 73, op := Op.fieldAddr 94 (Operand.tmp 72) 1, type := 0, pos := "spaces.go:102", after := #[{ on := 13, ground := Ground.data }, { on := 0, ground := Ground.phase }, { on := 1, ground := Ground.textOnly Departure.lateStores }, { on := 2, ground := Ground.textOnly Departure.lateStores }, { on := 3, ground := Ground.textOnly Departure.lateStores }, { on := 4, ground := Ground.textOnly Departure.lateStores }, { on := 5, ground := Ground.textOnly Departure.lateStores }, { on := 6, ground := Ground.textOnly Departure.lateStores }, { on := 7, ground := Ground.textOnly Departure.lateStoresUnsure }, { on := 8, ground := Ground.textOnly Departure.lateStores }, { on := 9, ground := Ground.phase }, { on := 10, ground := Ground.textOnly Departure.lateStoresUnsure }, { on := 11, ground := Ground.textOnly Departure.lateStoresUnsure }, { on := 12, ground := Ground.textOnly Departure.lateStores }], guard := none }) (v := ?_) rfl (by kernel_rfl) (by kernel_rfl) (by kernel_rfl) (fun _ _ _ h => h) (Or.inl ⟨by rfl, ?_⟩) (by assumption) ?_
        rotate_left
        focus (intro w hSw; (try dsimp only at hSw); go_simp <;> with_reducible rfl)
        try simp only [Act.put, List.setIfInBounds_toArray, List.set_cons_zero, List.set_cons_succ]
        refine wpAnyH_ready (rs := [15]) (by kernel_rfl) (by simp) ?_
        refine AllReadyH.cons (o := { dst := none, op := Op.store 4 (Operand.tmp 73) (Operand.const (Value.bool true)), type := 0, pos := "spaces.go:102", after := #[{ on := 14, ground := Ground.data }, { on := 5, ground := Ground.chain }, { on := 0, ground := Ground.phase }, { on := 1, ground := Ground.textOnly Departure.lateStores }, { on := 2, ground := Ground.textOnly Departure.lateStores }, { on := 3, ground := Ground.textOnly Departure.lateStores }, { on := 4, ground := Ground.textOnly Departure.lateStores }, { on := 5, ground := Ground.textOnly Departure.lateStores }, { on := 6, ground := Ground.textOnly Departure.lateStores }, { on := 7, ground := Ground.textOnly Departure.lateStoresUnsure }, { on := 8, ground := Ground.textOnly Departure.lateStores }, { on := 9, ground := Ground.phase }, { on := 10, ground := Ground.textOnly Departure.lateStoresUnsure }, { on := 11, ground := Ground.textOnly Departure.lateStoresUnsure }, { on := 12, ground := Ground.textOnly Departure.lateStores }], guard := none }) rfl (fun K hK => ?_) AllReadyH.nil
        go_simp
        generalize hz3 : World.setCell z2 _ _ = z3
        have hk3 : Keep [q] z2 z3 := by rw [← hz3]; exact keepSet (Keep.refl _ _) (by simp) _ _
        have b6 := hk3.cell hHeld.2.1 (by simpa using hbq)
        have b7 := hk3.cell hHeld.2.2 (by simpa using hbq)
        have b8 : z3.cell? ⟨q, 45, none⟩ = some (.slice ea 4 ec) := by rw [← hz3]; exact cell_far (by have := HLN.out; omega) hHeld.1
        have q3' : z3.cell? ⟨q, 3 + n * 5 + 3, none⟩ = some (.int .u32 (A.kp n : Nat)) := by rw [← hz3]; exact cell_far (by omega) q3
        have q4' : z3.cell? ⟨q, 3 + n * 5 + 3 + 1, none⟩ = some (.int .u32 (A.kr n : Nat)) := by rw [← hz3]; exact cell_far (by omega) q4
        have q2' : z3.cell? ⟨q, 3 + n * 5 + 2, none⟩ = some (.bool (A.us n)) := by rw [← hz3]; exact cell_far (by omega) q2
        have g3' : z3.frozen? ⟨q, 3 + n * 5 + 3, none⟩ = false := by rw [← hz3]; simpa using g3
        have g4' : z3.frozen? ⟨q, 3 + n * 5 + 3 + 1, none⟩ = false := by rw [← hz3]; simpa using g4
        have g2' : z3.frozen? ⟨q, 3 + n * 5 + 2, none⟩ = false := by rw [← hz3]; simpa using g2
        have HZ3 : Hid (z3 = z2.setCell ⟨q, 3 + n * 5 + 1, none⟩ (.bool true)) := Lib.hid hz3.symm
        clear hz3 q1 q2 q3 q4 g1 g2 g3 g4 hk3 q0
        refine shut_grow (fun u => u.cell? ⟨q, 45, none⟩ = some (.slice ea 4 ec) ∧ u.cell? ⟨bx, 0, none⟩ = some (.int .u32 kp) ∧ u.cell? ⟨bx, 1, none⟩ = some (.int .u32 kr)) hK (fun _ h => h) ⟨b8, b6, b7⟩ (fun hHeld => ?_)
        clear hK K
        refine wpAnyH_take (i := 16) (oi := { dst := some 74, op := Op.nilCheck (Operand.tmp 60), type := 0, pos := "spaces.go:102", after := #[{ on := 1, ground := Ground.data }, { on := 0, ground := Ground.phase }, { on := 1, ground := Ground.phase }, { on := 2, ground := Ground.textOnly Departure.lateStores }, { on := 3, ground := Ground.phase }, { on := 4, ground := Ground.textOnly Departure.lateStores }, { on := 5, ground := Ground.textOnly Departure.lateStores }, { on := 6, ground := Ground.textOnly Departure.lateStores }, { on := 7, ground := Ground.textOnly Departure.lateStoresUnsure }, { on := 8, ground := Ground.textOnly Departure.lateStores }, { on := 9, ground := Ground.phase }, { on := 10, ground := Ground.textOnly Departure.lateStoresUnsure }, { on := 11, ground := Ground.textOnly Departure.lateStoresUnsure }, { on := 12, ground := Ground.textOnly Departure.lateStores }, { on := 13, ground := Ground.phase }, { on := 14, ground := Ground.phase }, { on := 15, ground := Ground.phase }], guard := none }) (v := ?_) rfl (by kernel_rfl) (by kernel_rfl) (by kernel_rfl) (fun _ _ _ h => h) (Or.inl ⟨by rfl, ?_⟩) (by assumption) ?_
        rotate_left
        focus (intro w hSw; (try dsimp only at hSw); go_simp <;> with_reducible rfl)
        try simp only [Act.put, List.setIfInBounds_toArray, List.set_cons_zero, List.set_cons_succ]
        refine wpAnyH_take (i := 17) (oi := { dst := some 75, op := Op.fieldAddr 94 (Operand.tmp 74) 3, type := 0, pos := "spaces.go:102", after := #[{ on := 16, ground := Ground.data }, { on := 0, ground := Ground.phase }, { on := 1, ground := Ground.phase }, { on := 2, ground := Ground.textOnly Departure.lateStores }, { on := 3, ground := Ground.phase }, { on := 4, ground := Ground.textOnly Departure.lateStores }, { on := 5, ground := Ground.textOnly Departure.lateStores }, { on := 6, ground := Ground.textOnly Departure.lateStores }, { on := 7, ground := Ground.textOnly Departure.lateStoresUnsure }, { on := 8, ground := Ground.textOnly Departure.lateStores }, { on := 9, ground := Ground.phase }, { on := 10, ground := Ground.textOnly Departure.lateStoresUnsure }, { on := 11, ground := Ground.textOnly Departure.lateStoresUnsure }, { on := 12, ground := Ground.textOnly Departure.lateStores }, { on := 13, ground := Ground.phase }, { on := 14, ground := Ground.phase }, { on := 15, ground := Ground.phase }], guard := none }) (v := ?_) rfl (by kernel_rfl) (by kernel_rfl) (by kernel_rfl) (fun _ _ _ h => h) (Or.inl ⟨by rfl, ?_⟩) (by assumption) ?_
        rotate_left
        focus (intro w hSw; (try dsimp only at hSw); go_simp <;> with_reducible rfl)
        try simp only [Act.put, List.setIfInBounds_toArray, List.set_cons_zero, List.set_cons_succ]
        refine wpAnyH_ready (rs := [18]) (by kernel_rfl) (by simp) ?_
        refine AllReadyH.cons (o := { dst := none, op := Op.store 70 (Operand.tmp 75) (Operand.tmp 62), type := 0, pos := "spaces.go:102", after := #[{ on := 17, ground := Ground.data }, { on := 3, ground := Ground.data }, { on := 15, ground := Ground.chain }, { on := 0, ground := Ground.phase }, { on := 1, ground := Ground.phase }, { on := 2, ground := Ground.textOnly Departure.lateStores }, { on := 3, ground := Ground.phase }, { on := 4, ground := Ground.textOnly Departure.lateStores }, { on := 5, ground := Ground.textOnly Departure.lateStores }, { on := 6, ground := Ground.textOnly Departure.lateStores }, { on := 7, ground := Ground.textOnly Departure.lateStoresUnsure }, { on := 8, ground := Ground.textOnly Departure.lateStores }, { on := 9, ground := Ground.phase }, { on := 10, ground := Ground.textOnly Departure.lateStoresUnsure }, { on := 11, ground := Ground.textOnly Departure.lateStoresUnsure }, { on := 12, ground := Ground.textOnly Departure.lateStores }, { on := 13, ground := Ground.phase }, { on := 14, ground := Ground.phase }, { on := 15, ground := Ground.phase }], guard := none }) rfl (fun K hK => ?_) AllReadyH.nil
        go_simp
        generalize hz4 : World.setCell (World.setCell z3 _ _) _ _ = z4
        have hk4 : Keep [q] z3 z4 := by rw [← hz4]; exact keepSet (keepSet (Keep.refl _ _) (by simp) _ _) (by simp) _ _
        have b6' := hk4.cell b6 (by simpa using hbq)
        have b7' := hk4.cell b7 (by simpa using hbq)
        have b8' : z4.cell? ⟨q, 45, none⟩ = some (.slice ea 4 ec) := by rw [← hz4]; exact cell_far (by have := HLN.out; omega) (cell_far (by have := HLN.out; omega) b8)
        have q2'' : z4.cell? ⟨q, 3 + n * 5 + 2, none⟩ = some (.bool (A.us n)) := by rw [← hz4]; exact cell_far (by omega) (cell_far (by omega) q2')
        have g2'' : z4.frozen? ⟨q, 3 + n * 5 + 2, none⟩ = false := by rw [← hz4]; simpa using g2'
        have HZ4 : Hid (z4 = (z3.setCell ⟨q, 3 + n * 5 + 3, none⟩ (.int .u32 kp)).setCell ⟨q, 3 + n * 5 + 3 + 1, none⟩ (.int .u32 kr)) := Lib.hid hz4.symm
        clear hz4 hk4 q2' q3' q4' g2' g3' g4' b6 b7 b8
        refine shut_grow (fun u => u.cell? ⟨q, 45, none⟩ = some (.slice ea 4 ec) ∧ u.cell? ⟨bx, 0, none⟩ = some (.int .u32 kp) ∧ u.cell? ⟨bx, 1, none⟩ = some (.int .u32 kr)) hK (fun _ h => h) ⟨b8', b6', b7'⟩ (fun hHeld => ?_)
        clear hK K
        refine wpAnyH_take (i := 19) (oi := { dst := some 76, op := Op.nilCheck (Operand.tmp 61), type := 0, pos := "spaces.go:102", after := #[{ on := 2, ground := Ground.data }, { on := 0, ground := Ground.phase }, { on := 1, ground := Ground.phase }, { on := 2, ground := Ground.phase }, { on := 3, ground := Ground.phase }, { on := 4, ground := Ground.phase }, { on := 5, ground := Ground.phase }, { on := 6, ground := Ground.phase }, { on := 7, ground := Ground.phase }, { on := 8, ground := Ground.phase }, { on := 9, ground := Ground.phase }, { on := 10, ground := Ground.phase }, { on := 11, ground := Ground.phase }, { on := 12, ground := Ground.phase }, { on := 13, ground := Ground.phase }, { on := 14, ground := Ground.phase }, { on := 15, ground := Ground.phase }, { on := 16, ground := Ground.phase }, { on := 17, ground := Ground.phase }, { on := 18, ground := Ground.phase }], guard := none }) (v := ?_) rfl (by kernel_rfl) (by kernel_rfl) (by kernel_rfl) (fun _ _ _ h => h) (Or.inl ⟨by rfl, ?_⟩) (by assumption) ?_
        rotate_left
        focus (intro w hSw; (try dsimp only at hSw); go_simp <;> with_reducible rfl)
        try simp only [Act.put, List.setIfInBounds_toArray, List.set_cons_zero, List.set_cons_succ]
        refine wpAnyH_take (i := 20) (oi := { dst := some 77, op := Op.fieldAddr 94 (Operand.tmp 76) 2, type := 0, pos := "spaces.go:102", after := #[{ on := 19, ground := Ground.data }, { on := 0, ground := Ground.phase }, { on := 1, ground := Ground.phase }, { on := 2, ground := Ground.phase }, { on := 3, ground := Ground.phase }, { on := 4, ground := Ground.phase }, { on := 5, ground := Ground.phase }, { on := 6, ground := Ground.phase }, { on := 7, ground := Ground.phase }, { on := 8, ground := Ground.phase }, { on := 9, ground := Ground.phase }, { on := 10, ground := Ground.phase }, { on := 11, ground := Ground.phase }, { on := 12, ground := Ground.phase }, { on := 13, ground := Ground.phase }, { on := 14, ground := Ground.phase }, { on := 15, ground := Ground.phase }, { on := 16, ground := Ground.phase }, { on := 17, ground := Ground.phase }, { on := 18, ground := Ground.phase }], guard := none }) (v := ?_) rfl (by kernel_rfl) (by kernel_rfl) (by kernel_rfl) (fun _ _ _ h => h) (Or.inl ⟨by rfl, ?_⟩) (by assumption) ?_
        rotate_left
        focus (intro w hSw; (try dsimp only at hSw); go_simp <;> with_reducible rfl)
        try simp only [Act.put, List.setIfInBounds_toArray, List.set_cons_zero, List.set_cons_succ]
        refine wpAnyH_ready (rs := [21]) (by kernel_rfl) (by simp) ?_
        refine AllReadyH.cons (o := { dst := none, op := Op.store 4 (Operand.tmp 77) (Operand.tmp 71), type := 0, pos := "spaces.go:102", after := #[{ on := 20, ground := Ground.data }, { on := 12, ground := Ground.data }, { on := 18, ground := Ground.chain }, { on := 0, ground := Ground.phase }, { on := 1, ground := Ground.phase }, { on := 2, ground := Ground.phase }, { on := 3, ground := Ground.phase }, { on := 4, ground := Ground.phase }, { on := 5, ground := Ground.phase }, { on := 6, ground := Ground.phase }, { on := 7, ground := Ground.phase }, { on := 8, ground := Ground.phase }, { on := 9, ground := Ground.phase }, { on := 10, ground := Ground.phase }, { on := 11, ground := Ground.phase }, { on := 12, ground := Ground.phase }, { on := 13, ground := Ground.phase }, { on := 14, ground := Ground.phase }, { on := 15, ground := Ground.phase }, { on := 16, ground := Ground.phase }, { on := 17, ground := Ground.phase }, { on := 18, ground := Ground.phase }], guard := none }) rfl (fun K hK => ?_) AllReadyH.nil
        go_simp
        generalize hz5 : World.setCell z4 _ _ = z5
        have HZ5 : Hid (∃ f', QAt z5 q r fb g p pm ns sh (A.take n kp kr true) (youngL age n) true kept (lost + 1) f' ga gc ea ec ∧ Keep [q] z2 z5) := Lib.hid (HQ2.out.take HLN.out.1 kp kr true (by rw [← hz5, HZ4.out, HZ3.out]))
        have hk5 : Keep [q] z4 z5 := by rw [← hz5]; exact keepSet (Keep.refl _ _) (by simp) _ _
        have b6 := hk5.cell b6' (by simpa using hbq)
        have b7 := hk5.cell b7' (by simpa using hbq)
        have b8 : z5.cell? ⟨q, 45, none⟩ = some (.slice ea 4 ec) := by rw [← hz5]; exact cell_far (by have := HLN.out; omega) b8'
        clear hz5 hk5 b6' b7' b8' q2'' g2''
        refine shut_grow (fun u => u = z5) hK (fun _ h => by rw [h]; exact ⟨b8, b6, b7⟩) rfl (fun hHeld => ?_)
        clear hK K
        refine wpAnyH_done (by kernel_rfl) ?_ _
        clear hHeld
        obtain ⟨f5, hQ5, hK5⟩ := HZ5.out
        have hK6 : Keep [q, ga] w1 z5 := HZ.out.2.2.trans ((HZ2.out.weaken (by simp)).trans (hK5.weaken (by simp)))
        have hM5 := HW1.out.1.own (fun j hj => by simpa using hj) hK6
        have H5 := Lib.hid (And.intro hQ5 (And.intro hM5 hK6))
        obtain ⟨q0, -⟩ := hQ5.space (k := n) (by have := HLN.out; omega)
        rw [if_pos HLN.out.1] at q0
        clear hQ5 hK5 hM5 hK6 b6 b7
        go_wp2_with fail
        refine (mclear_at H5.out.2.1 HLN.out.1).mono ?_
        rintro e z6 ⟨⟨v6, rfl⟩, HC⟩
        have H6 : Hid (∃ L' lent' f', MAt z6 sh uv r fb g p pm most ns (setSh T n fun _ => tab0) up L' lent' c ∧ QAt z6 q r fb g p pm ns sh (A.take n kp kr true) (youngL age n) true kept (lost + 1) f' ga gc ea ec ∧ Keep [sh n, g, p, pm] z5 z6) := Lib.hid (by
          obtain ⟨L', lent', h1, h2⟩ := HC.out
          have hnq := HS.out.nq
          simp only [List.mem_cons, List.mem_map, List.mem_range, not_or, not_exists, not_and] at hnq
          refine ⟨L', lent', f5, h1, H5.out.1.nbs h2 (fun z hz => ?_), h2⟩
          simp only [List.mem_cons, List.not_mem_nil, or_false] at hz
          rcases hz with rfl | rfl | rfl | rfl
          · exact ⟨by simp only [qNb, List.mem_cons, List.mem_map, List.mem_range]; exact .inr (.inr (.inr (.inr (.inr (.inr ⟨n, HLN.out.1, rfl⟩))))), hnq.2.2.2.2.2 n HLN.out.1⟩
          · exact ⟨by simp [qNb], fun e => hnq.2.2.1 e.symm⟩
          · exact ⟨by simp [qNb], fun e => hnq.2.2.2.1 e.symm⟩
          · exact ⟨by simp [qNb], fun e => hnq.2.2.2.2.1 e.symm⟩)
        clear HC q0 b8
        have HFIN : Hid (∀ (e : Ending) (z7 : World), e = .returned (.bool true) ∧ Hid (∃ uv' L', (∃ lent', MAt z7 sh uv' r fb g p pm most ns (setSh T n fun _ => tab0) (setUp up n true) L' lent' c) ∧ (∀ m, m < ns → setUp up n true m = true → ∀ z, (uv' m).ownBlock = some z → (m ≠ n ∧ (uv m).ownBlock = some z) ∨ z6.heap.size ≤ z) ∧ Keep [sh n, g] z6 z7) → SelPost (fun z => UvIn uv up ns z ∨ x.heap.size ≤ z) q r fb g p pm most ns sh T up c A age kept lost ga gc ea ec kp kr true x (.returned (.bool false)) z7) := Lib.hid (by
          rintro e z7 ⟨-, HU⟩
          obtain ⟨uv', L7, ⟨lent7, hM7⟩, hub, hK7⟩ := HU.out
          obtain ⟨L', lent', f6, hM6, hQ6, hK6⟩ := H6.out
          have hnq := HS.out.nq
          simp only [List.mem_cons, List.mem_map, List.mem_range, not_or, not_exists, not_and] at hnq
          have hQ7 := hQ6.nbs hK7 (fun z hz => by
            simp only [List.mem_cons, List.not_mem_nil, or_false] at hz
            rcases hz with rfl | rfl
            · exact ⟨by simp only [qNb, List.mem_cons, List.mem_map, List.mem_range]; exact .inr (.inr (.inr (.inr (.inr (.inr ⟨n, HLN.out.1, rfl⟩))))), hnq.2.2.2.2.2 n HLN.out.1⟩
            · exact ⟨by simp [qNb], fun e => hnq.2.2.1 e.symm⟩)
          have hsn : sh n ∈ pwl q ga g p pm ns sh := by
            simp only [pwl, List.mem_cons, List.mem_map, List.mem_range]; exact .inr (.inr (.inr (.inr (.inr ⟨n, HLN.out.1, rfl⟩))))
          have hKx5 : Keep [q, ga] x z5 := (HW1.out.2.1.weaken (by simp)).trans H5.out.2.2
          have hKx6 : Keep (pwl q ga g p pm ns sh) x z6 := (hKx5.weaken (by intro k hk _; simp only [List.mem_cons, List.not_mem_nil, or_false] at hk; rcases hk with rfl | rfl <;> simp [pwl])).trans (hK6.weaken (by
            intro k hk _
            simp only [List.mem_cons, List.not_mem_nil, or_false] at hk
            rcases hk with rfl | rfl | rfl | rfl
            · exact hsn
            · simp [pwl]
            · simp [pwl]
            · simp [pwl]))
          have hKx : Keep (pwl q ga g p pm ns sh) x z7 := hKx6.trans (hK7.weaken (by
            intro k hk _
            simp only [List.mem_cons, List.not_mem_nil, or_false] at hk
            rcases hk with rfl | rfl
            · exact hsn
            · simp [pwl]))
          obtain ⟨h0, hn0⟩ := HN.out
          obtain ⟨-, -, -, cug, hcug⟩ := HS.out.qq.ageCell
          have hgl := lt_of_heap hcug
          have hql := HS.out.qq.ltb q (by simp [qNb])
          refine ⟨false, A.take n kp kr true, youngL age n, setSh T n (fun _ => tab0), setUp up n true, kept, lost + 1, rfl, .inr ⟨HNO.out, rfl, h0, by rw [← hn0], by rw [← hn0], by rw [← hn0], by rw [← hn0], rfl, rfl⟩, ⟨uv', L7, lent7, f6, ⟨hM7, hQ7, fun m hm => ?_, HS.out.nq, fun m hm hup bb hb => ?_, fun b o hb => Nat.lt_of_lt_of_le (HS.out.eb b o hb) hKx.size⟩, fun m hm hup bb hb => ?_⟩, hKx⟩
          · show updN A.us n true m = setUp up n true m
            unfold updN setUp
            by_cases hmn : m = n
            · rw [if_pos hmn, if_pos hmn]
            · rw [if_neg hmn, if_neg hmn, HS.out.us m hm]
          · rcases hub m hm hup bb hb with ⟨h1, h2⟩ | h1
            · rw [setUp_ne h1] at hup
              exact HS.out.au m hm hup bb h2
            · have := hKx6.size
              exact ⟨by omega, by omega⟩
          · rcases hub m hm hup bb hb with ⟨h1, h2⟩ | h1
            · rw [setUp_ne h1] at hup
              exact .inl ⟨m, hm, hup, h2⟩
            · have := hKx6.size
              exact .inr (by omega))
        obtain ⟨L', lent', f6, hM6, hQ6, -⟩ := H6.out
        obtain ⟨q0, -⟩ := hQ6.space (k := n) (by have := HLN.out; omega)
        rw [if_pos HLN.out.1] at q0
        obtain ⟨-, -, -, -, -, d5, -, -⟩ := hQ6.cells
        have hEA : UpR z6 ea (upL true) [sh n, g] := hQ6.up.less (fun z hz => by
          simp only [List.mem_cons, List.not_mem_nil, or_false] at hz
          rcases hz with rfl | rfl
          · simp only [qNb, List.mem_cons, List.mem_map, List.mem_range]; exact .inr (.inr (.inr (.inr (.inr (.inr ⟨n, HLN.out.1, rfl⟩)))))
          · simp [qNb])
        have HU : Hid (∀ z, Keep [] z6 z → Calls Try.prog 63 #[.pointer (some ⟨sh n, 0, none⟩), .slice ea 4 ec] z fun e w' => e = .returned (.bool true) ∧ Hid (∃ uv' L', (∃ lent', MAt w' sh uv' r fb g p pm most ns (setSh T n fun _ => tab0) (setUp up n true) L' lent' c) ∧ (∀ m, m < ns → setUp up n true m = true → ∀ z, (uv' m).ownBlock = some z → (m ≠ n ∧ (uv m).ownBlock = some z) ∨ z6.heap.size ≤ z) ∧ Keep [sh n, g] z6 w')) := Lib.hid (fun z hz => by
          refine (mupper_at (hM6.keep0 hz) HLN.out.1 setSh_same true (ea := ea) (ec := ec) (hEA.keep hz (by simp)) (fun q => by cases q)).mono ?_
          rintro e w' ⟨rfl, HU7⟩
          obtain ⟨a, b, h1, h2, h3⟩ := HU7.out
          exact ⟨rfl, Lib.hid ⟨a, b, ⟨_, h1⟩, fun m hm hup z' hz' => (h2 m hm hup z' hz').imp id (fun q => Nat.le_trans hz.size q), (hz.weaken (by simp)).trans h3⟩⟩)
        clear hM6 hQ6 hEA
        go_wp2_with fail
        refine wp_region_held_drew (S := fun u => u.cell? ⟨q, 45, none⟩ = some (.slice ea 4 ec) ∧ u.cell? ⟨q, 3 + n * 5, none⟩ = some (.pointer (some ⟨sh n, 0, none⟩))) (by kernel_rfl) ⟨d5, q0⟩ (fun hHeld => ?_)
        skip
        generalize hz8 : World.drew z6 = z8 at hHeld ⊢
        have HZ8 : Hid (Keep [] z6 z8) := Lib.hid (by subst hz8; exact (Keep.refl [] z6).drew)
        clear hz8 q0 d5
        refine wpAnyH_take (i := 0) (oi := { dst := some 84, op := Op.move (Operand.tmp 9), type := 131, pos := "spaces.go:105", after := #[], guard := none }) (v := ?_) rfl (by kernel_rfl) (by kernel_rfl) (by kernel_rfl) (fun _ _ _ h => h) (Or.inl ⟨by rfl, ?_⟩) (by assumption) ?_
        rotate_left
        focus (intro w hSw; (try dsimp only at hSw); go_simp <;> with_reducible rfl)
        try simp only [Act.put, List.setIfInBounds_toArray, List.set_cons_zero, List.set_cons_succ]
        refine wpAnyH_take (i := 1) (oi := { dst := some 85, op := Op.nilCheck (Operand.tmp 84), type := 0, pos := "spaces.go:105", after := #[{ on := 0, ground := Ground.data }], guard := none }) (v := ?_) rfl (by kernel_rfl) (by kernel_rfl) (by kernel_rfl) (fun _ _ _ h => h) (Or.inl ⟨by rfl, ?_⟩) (by assumption) ?_
        rotate_left
        focus (intro w hSw; (try dsimp only at hSw); go_simp <;> with_reducible rfl)
        try simp only [Act.put, List.setIfInBounds_toArray, List.set_cons_zero, List.set_cons_succ]
        refine wpAnyH_take (i := 2) (oi := { dst := some 86, op := Op.fieldAddr 94 (Operand.tmp 85) 0, type := 0, pos := "spaces.go:105", after := #[{ on := 1, ground := Ground.data }], guard := none }) (v := ?_) rfl (by kernel_rfl) (by kernel_rfl) (by kernel_rfl) (fun _ _ _ h => h) (Or.inl ⟨by rfl, ?_⟩) (by assumption) ?_
        rotate_left
        focus (intro w hSw; (try dsimp only at hSw); go_simp <;> with_reducible rfl)
        try simp only [Act.put, List.setIfInBounds_toArray, List.set_cons_zero, List.set_cons_succ]
        refine wpAnyH_take (i := 3) (oi := { dst := some 87, op := Op.load 27 (Operand.tmp 86), type := 27, pos := "spaces.go:105", after := #[{ on := 2, ground := Ground.data }], guard := none }) (v := ?_) rfl (by kernel_rfl) (by kernel_rfl) (by kernel_rfl) (fun _ _ _ h => h) (Or.inl ⟨by rfl, ?_⟩) (by assumption) ?_
        rotate_left
        focus (intro w hSw; (try dsimp only at hSw); go_simp <;> with_reducible rfl)
        try simp only [Act.put, List.setIfInBounds_toArray, List.set_cons_zero, List.set_cons_succ]
        refine wpAnyH_take (i := 4) (oi := { dst := some 88, op := Op.move (Operand.tmp 0), type := 75, pos := "spaces.go:105", after := #[], guard := none }) (v := ?_) rfl (by kernel_rfl) (by kernel_rfl) (by kernel_rfl) (fun _ _ _ h => h) (Or.inl ⟨by rfl, ?_⟩) (by assumption) ?_
        rotate_left
        focus (intro w hSw; (try dsimp only at hSw); go_simp <;> with_reducible rfl)
        try simp only [Act.put, List.setIfInBounds_toArray, List.set_cons_zero, List.set_cons_succ]
        refine wpAnyH_take (i := 5) (oi := { dst := some 89, op := Op.nilCheck (Operand.tmp 88), type := 0, pos := "spaces.go:105", after := #[{ on := 4, ground := Ground.data }], guard := none }) (v := ?_) rfl (by kernel_rfl) (by kernel_rfl) (by kernel_rfl) (fun _ _ _ h => h) (Or.inl ⟨by rfl, ?_⟩) (by assumption) ?_
        rotate_left
        focus (intro w hSw; (try dsimp only at hSw); go_simp <;> with_reducible rfl)
        try simp only [Act.put, List.setIfInBounds_toArray, List.set_cons_zero, List.set_cons_succ]
        refine wpAnyH_take (i := 6) (oi := { dst := some 90, op := Op.fieldAddr 102 (Operand.tmp 89) 6, type := 0, pos := "spaces.go:105", after := #[{ on := 5, ground := Ground.data }], guard := none }) (v := ?_) rfl (by kernel_rfl) (by kernel_rfl) (by kernel_rfl) (fun _ _ _ h => h) (Or.inl ⟨by rfl, ?_⟩) (by assumption) ?_
        rotate_left
        focus (intro w hSw; (try dsimp only at hSw); go_simp <;> with_reducible rfl)
        try simp only [Act.put, List.setIfInBounds_toArray, List.set_cons_zero, List.set_cons_succ]
        refine wpAnyH_take (i := 7) (oi := { dst := some 91, op := Op.load 44 (Operand.tmp 90), type := 44, pos := "spaces.go:105", after := #[{ on := 6, ground := Ground.data }], guard := none }) (v := ?_) rfl (by kernel_rfl) (by kernel_rfl) (by kernel_rfl) (fun _ _ _ h => h) (Or.inl ⟨by rfl, ?_⟩) (by assumption) ?_
        rotate_left
        focus (intro w hSw; (try dsimp only at hSw); go_simp <;> with_reducible rfl)
        try simp only [Act.put, List.setIfInBounds_toArray, List.set_cons_zero, List.set_cons_succ]
        refine wpAnyH_ready (rs := [8]) (by kernel_rfl) (by simp) ?_
        refine AllReadyH.cons (o := { dst := some 92, op := Op.call { callee := Callee.value (Operand.func 63), args := #[Operand.tmp 87, Operand.tmp 91], argTypes := #[27, 44] }, type := 4, pos := "spaces.go:105", after := #[{ on := 3, ground := Ground.data }, { on := 7, ground := Ground.data }], guard := none }) rfl (fun K hK => ?_) AllReadyH.nil
        go_simp
        refine (HU.out z8 HZ8.out).mono ?_
        rintro e z7 ⟨rfl, HU7⟩
        have HF := Lib.hid (HFIN.out (.returned (.bool true)) z7 ⟨rfl, HU7⟩)
        have x5 : z7.cell? ⟨q, 45, none⟩ = some (.slice ea 4 ec) ∧ z7.cell? ⟨q, 3 + n * 5, none⟩ = some (.pointer (some ⟨sh n, 0, none⟩)) := by
          obtain ⟨_, _, _, _, _, _, _, _, _, h1, _⟩ := HF.out
          obtain ⟨_, _, _, f7, h1, -⟩ := h1
          obtain ⟨q0, -⟩ := h1.qq.space (k := n) (by have := HLN.out; omega)
          rw [if_pos HLN.out.1] at q0
          exact ⟨h1.qq.cells.2.2.2.2.2.1, q0⟩
        clear HU7 HFIN
        go_wp2_with fail
        refine shut_grow (fun u => u = z7) hK (fun _ h => by rw [h]; exact x5) rfl (fun hHeld => ?_)
        clear hK K
        refine wpAnyH_done (by kernel_rfl) ?_ _
        clear hHeld x5
        go_wp2_with fail
        go_ret
        exact HF.out
end Go.Proofs.Ytpinoejckagjbaa
