/- No table without a page; the spaces' step, program and document. -/
import Derived.Test.YtpinoejckagjbaaM49
namespace Go.Proofs.Ytpinoejckagjbaa
open Go.RowKit Go.Mum
set_option linter.unusedVariables false
set_option linter.unusedSimpArgs false
set_option maxRecDepth 100000

/-- An address, as a rule one of few pages. -/
def nearP (va : Nat) : Nat := if va % 7 = 0 then va else va % 6000

theorem nearP_lt {va : Nat} (h : va < 4294967296) : nearP va < 4294967296 := by unfold nearP; split <;> omega

theorem nearp_at (va : Nat) (hv : va < 4294967296) (w : World) : Calls Try.prog 30 #[.int .u32 va] w fun e w' => e = .returned (.int .u32 (nearP va : Nat)) ∧ w = w' := by
  have t1 : ((va : Int)).tmod 7 = (va : Int) % 7 := by rw [Int.tmod_eq_emod_of_nonneg (by omega)]
  have t2 : ((va : Int)).tmod 6000 = (va : Int) % 6000 := by rw [Int.tmod_eq_emod_of_nonneg (by omega)]
  by_cases h : va % 7 = 0
  · have h' : (va : Int) % 7 = 0 := by omega
    have e : nearP va = va := by unfold nearP; rw [if_pos h]
    rw [e]
    clear h e
    go_enter Try.func30, Try.ntmps30
    go_wp2_with fail
    go_ret
    exact ⟨rfl, rfl⟩
  · have h' : ¬ ((va : Int) % 7 = 0) := by omega
    obtain ⟨z, hz⟩ : ∃ z : Nat, va % 6000 = z := ⟨_, rfl⟩
    have hz' : (va : Int) % 6000 = (z : Int) := by omega
    have e : nearP va = z := by unfold nearP; rw [if_neg h, hz]
    rw [e]
    clear h e hz
    go_enter Try.func30, Try.ntmps30
    go_wp2_with fail
    go_ret
    exact ⟨rfl, rfl⟩

/-- A step's block. -/
def StB (x : World) (b : Nat) (kd : Int) (kp kr : Nat) (u : Bool) (va : Nat) (fr : Int) (bb : Nat) : Prop := x.heap[b]? = some (.cells (stC kd kp kr u va fr bb).toArray 72 (0, 0))

theorem StB.cells {x : World} {b : Nat} {kd : Int} {kp kr : Nat} {u : Bool} {va : Nat} {fr : Int} {bb : Nat} (h : StB x b kd kp kr u va fr bb) : x.cell? ⟨b, 0, none⟩ = some (.int .i64 kd) ∧ x.cell? ⟨b, 1, none⟩ = some (.int .u32 (kp : Nat)) ∧ x.cell? ⟨b, 2, none⟩ = some (.int .u32 (kr : Nat)) ∧ x.cell? ⟨b, 3, none⟩ = some (.bool u) ∧ x.cell? ⟨b, 4, none⟩ = some (.int .u32 (va : Nat)) ∧ x.cell? ⟨b, 5, none⟩ = some (.int .i64 fr) ∧ x.cell? ⟨b, 6, none⟩ = some (.int .u32 (bb : Nat)) :=
  ⟨cell_of h 0 rfl, cell_of h 1 rfl, cell_of h 2 rfl, cell_of h 3 rfl, cell_of h 4 rfl, cell_of h 5 rfl, cell_of h 6 rfl⟩

/-- No table without a page. -/
def NeK (t : Nat → Tab) : Prop := ∀ n, n < 32 → (t n).th = true → ∃ j, j < 16 ∧ (t n).en j ≠ 0
def NeT (T : Nat → Nat → Tab) : Prop := ∀ k, NeK (T k)

theorem neK0 : NeK (fun _ => tab0) := fun n _ h => by cases h

theorem NeT.clear {T : Nat → Nat → Tab} (h : NeT T) (a : Nat) : NeT (setSh T a fun _ => tab0) := fun k => by
  by_cases hk : k = a
  · rw [hk, setSh_same]; exact neK0
  · rw [setSh_ne hk]; exact h k

theorem NeT.bare {T : Nat → Nat → Tab} (h : NeT T) (ns k : Nat) : NeT (bareT T ns k) := fun m => by
  show NeK (if m < k ∧ m < ns then (fun _ => tab0) else T m)
  split
  · exact neK0
  · exact h m

theorem NeT.putM {most ns : Nat} {T T' : Nat → Nat → Tab} {up : Nat → Bool} {lent : List Int} {n va bb : Nat} {frame : Int} (h : NeT T) (hp : PutM most ns T up lent n va frame bb true T') : NeT T' := by
  rcases hp with ⟨-, h2, -⟩ | ⟨⟨h1, -, -, -⟩, -, T1, hl, rfl⟩ | ⟨-, -, -, h2, -⟩
  · cases h2
  · intro k
    by_cases hk : k = n
    · subst hk
      rw [setSh_same]
      intro m hm ht
      by_cases hmn : m = va / 1024
      · subst hmn
        refine ⟨va / 64 % 16, by omega, ?_⟩
        rw [setTab_same]
        show (if va / 64 % 16 = va / 64 % 16 then entryOf frame.toNat bb else _) ≠ 0
        rw [if_pos rfl]
        unfold entryOf; omega
      · rw [setTab_ne hmn] at ht ⊢
        rcases hl with ⟨_, rfl⟩ | ⟨_, f, -, -, -, rfl⟩
        · exact h k m hm ht
        · rw [setTab_ne hmn] at ht ⊢; exact h k m hm ht
    · rw [setSh_ne hk]; exact h k
  · cases h2

theorem NeT.putQ {most ns : Nat} {T T' : Nat → Nat → Tab} {up : Nat → Bool} {lent : List Int} {age : List Nat} {n va bb : Nat} {frame : Int} {b : Bool} (h : NeT T) (hp : PutQ most ns T up lent age n va frame bb b T') : NeT T' := by
  rcases hp with ⟨h1, -⟩ | ⟨-, -, rfl, -⟩ | ⟨-, -, -, k, hk, -, -, lent2, h1⟩
  · exact h.putM h1
  · exact h
  · exact (h.clear _).putM h1

theorem NeT.selQ {A A' : QSt} {age age' : List Nat} {T T' : Nat → Nat → Tab} {up up' : Nat → Bool} {kept lost kept' lost' kp kr : Nat} {b r : Bool} (h : NeT T) (hs : SelQ A age T up kept lost kp kr b r A' age' T' up' kept' lost') : NeT T' := by
  rcases hs with ⟨n, _, _, _, _, _, _, rfl, _⟩ | ⟨_, _, h0, _, _, rfl, _⟩
  · exact h
  · exact h.clear _

/-- The program's and the document's spaces, agreeing. -/
structure DB (x : World) (W0 B q r fb g p pm most ns rb : Nat) (sh : Nat → Nat) (ga gc : Nat) (ea : Option Addr) (ec : Nat) (T : Nat → Nat → Tab) (up : Nat → Bool) (A : QSt) (age : List Nat) (use : Bool) (kept lost c : Nat) (R : RSt) : Prop where
  hb : HB x W0 B q r fb g p pm most ns rb sh ga gc ea ec T up A age use kept lost c R age use c
  ag : AgM T up A age use R
  ne : NeT T

section
variable {x y : World} {W0 B q r fb g p pm most ns rb : Nat} {sh : Nat → Nat} {ga gc : Nat} {ea : Option Addr} {ec : Nat} {T : Nat → Nat → Tab} {up : Nat → Bool} {A : QSt} {age : List Nat} {use : Bool} {kept lost c : Nat} {R : RSt}

theorem DB.keep0 (h : DB x W0 B q r fb g p pm most ns rb sh ga gc ea ec T up A age use kept lost c R) (hk : Keep [] x y) : DB y W0 B q r fb g p pm most ns rb sh ga gc ea ec T up A age use kept lost c R := ⟨h.hb.keep0 hk, h.ag, h.ne⟩

theorem HB.later {ager : List Nat} {user : Bool} {cr c' cr' : Nat} (h : HB x W0 B q r fb g p pm most ns rb sh ga gc ea ec T up A age use kept lost c R ager user cr) (hc : c ≤ c') (hcr : cr ≤ cr') : HB x W0 B q r fb g p pm most ns rb sh ga gc ea ec T up A age use kept lost c' R ager user cr' := by
  obtain ⟨g2, c2, h2, hr, uv, L, lent, f, hs, hv⟩ := h.two
  exact ⟨⟨g2, c2, h2, hr.later hcr, uv, L, lent, f, hs.more hc, hv⟩, h.lo, h.eb, h.wB⟩

theorem HB.mostLe {ager : List Nat} {user : Bool} {cr : Nat} (h : HB x W0 B q r fb g p pm most ns rb sh ga gc ea ec T up A age use kept lost c R ager user cr) : most ≤ 9 := by
  obtain ⟨g2, c2, h2, hr, uv, L, lent, f, hs, hv⟩ := h.two
  exact hs.m.inv.mst

theorem DB.tot (h : DB x W0 B q r fb g p pm most ns rb sh ga gc ea ec T up A age use kept lost c R) : totS R age ≤ most := by
  obtain ⟨h1, h2, h3, -, -, -, L, lent, hI⟩ := h.hb.facts
  have := h.ag.lentS hI h1 h2 h3
  have := hI.lent_le
  omega

/-- A step that came in stays, whatever the spaces do. -/
def KeepSt (x y : World) : Prop := ∀ (z : Nat) (cs : Array Value), x.heap[z]? = some (Obj.cells cs 72 (0, 0)) → y.heap[z]? = some (Obj.cells cs 72 (0, 0))

theorem SpAt.steps {uv : Nat → Value} {L lent : List Int} {f : Nat → Value} (h : SpAt x q r fb g p pm most ns sh uv T up L lent c A age use kept lost f ga gc ea ec) (hk : Keep (pwl q ga g p pm ns sh) x y) : KeepSt x y := fun z cs hz => by
  refine hk.heap hz (fun hm => ?_)
  simp only [pwl, List.mem_cons, List.mem_map, List.mem_range] at hm
  rcases hm with e | e | e | e | e | ⟨k, hk', e⟩
  · obtain ⟨c1, h1, -⟩ := h.qq.arr
    exact type_ne hz h1 (by decide) e
  · obtain ⟨-, -, -, c1, h1⟩ := h.qq.ageCell
    exact type_ne hz h1 (by decide) e
  · exact type_ne hz h.m.ram.data (by decide) e
  · obtain ⟨tk, sn, hp, -⟩ := h.m.pool
    exact type_ne hz hp.1 (by decide) e
  · obtain ⟨tk, sn, hp, -⟩ := h.m.pool
    obtain ⟨es, cl, h1, -⟩ := hp.2
    subst e
    rw [h1] at hz; simp at hz
  · obtain ⟨c1, h1, -⟩ := h.m.shs k hk'
    exact type_ne h1 hz (by decide) e

theorem RcAt.steps {g2 c2 : Nat} {h2 : Value} {cr : Nat} (h : RcAt x B rb most R age use g2 c2 h2 cr) (hk : KeepTo (RcW R age rb g2) x y) : KeepSt x y := fun z cs hz => by
  obtain ⟨l, hl, hk⟩ := hk
  refine hk.heap hz (fun hm => ?_)
  rcases hl z hm with e | e | ⟨j, hj, e⟩
  · exact type_ne hz h.head (by decide) e
  · obtain ⟨c1, h1⟩ := own_type h.all (g := g2) rfl
    exact type_ne hz h1 (by decide) e
  · obtain ⟨c1, h1⟩ := own_type (h.trow j hj) e
    exact type_ne hz h1 (by decide) rfl

theorem hb_pputT {ager : List Nat} {user : Bool} {cr : Nat} (h : HB x W0 B q r fb g p pm most ns rb sh ga gc ea ec T up A age true kept lost c R ager user cr) (hc : c ≤ 90000) {i : Nat} (hi : i + 1 = age.length) (va : Nat) (frame : Int) (bb : Nat) (hv1 : va < 4294967296) (hf1 : -9223372036854775808 ≤ frame) (hf2 : frame ≤ 9223372036854775807) (hb : bb < 4294967296) :
    Calls Try.prog 32 #[.pointer (some ⟨q, 0, none⟩), .int .u32 va, .int .i64 frame, .int .u32 bb] x fun e y => ∃ b T', e = .returned (.bool b) ∧ (∃ L lent, MInv most ns T up L lent ∧ PutQ most ns T up lent age (age[i]'(by omega)) va frame bb b T') ∧ HB y W0 B q r fb g p pm most ns rb sh ga gc ea ec T' up A age true kept lost (c + 2) R ager user cr ∧ KeepUp W0 x y ∧ KeepSt x y := by
  obtain ⟨g2, c2, h2, hr, uv, L, lent, f, hs, hv⟩ := h.two
  refine (put_at hs hc hi va frame bb hv1 hf1 hf2 hb).mono ?_
  rintro e y ⟨b, T', rfl, hq, hs', hk⟩
  obtain ⟨uv', L', lent', f', h1, h2⟩ := hs'
  obtain ⟨a1, a2⟩ := h.prog hr hv ⟨uv', L', lent', f', h1, fun m hm hu z hz => .inl (h2 m hm hu z hz)⟩ hk
  exact ⟨b, T', rfl, ⟨L, lent, hs.m.inv, hq⟩, a1, a2, hs.steps hk⟩

theorem hb_dputT {ager : List Nat} {cr : Nat} (h : HB x W0 B q r fb g p pm most ns rb sh ga gc ea ec T up A age use kept lost c R ager true cr) (hc : cr ≤ 700) (hm : most ≤ 9) (htot : totS R ager ≤ most) {i : Nat} (hi : i + 1 = ager.length) (va : Nat) (frame : Int) (bb : Nat) (hv1 : va < 4294967296) (hf1 : -9223372036854775808 ≤ frame) (hf2 : frame ≤ 9223372036854775807) (hb : bb < 4294967296) :
    Calls Try.prog 72 #[.pointer (some ⟨rb, 0, none⟩), .int .u32 va, .int .i64 frame, .int .u32 bb] x fun e y => ∃ b R', e = .returned (.bool b) ∧ PutF R ager most (ager[i]'(by omega)) va frame bb b R' ∧ HB y W0 B q r fb g p pm most ns rb sh ga gc ea ec T up A age use kept lost c R' ager true (cr + 2) ∧ KeepUp W0 x y ∧ KeepSt x y := by
  obtain ⟨g2, c2, h2, hr, hs⟩ := h.two
  refine (rfput_at hr hc hm htot hi va frame bb hv1 hf1 hf2 hb).mono ?_
  rintro e y ⟨b, R', rfl, hf, hr', hk, ht⟩
  obtain ⟨a1, a2⟩ := h.doc hr hs hr' hk (fun z hz => ht.w hz)
  exact ⟨b, R', rfl, hf, a1, a2, hr.steps hk⟩

theorem rfput_off (h2 : x.cell? ⟨rb, 2, none⟩ = some (.bool false)) (va frame bb : Int) : Calls Try.prog 72 #[.pointer (some ⟨rb, 0, none⟩), .int .u32 va, .int .i64 frame, .int .u32 bb] x fun e y => e = .returned (.bool false) ∧ x = y := by
  go_enter Try.func72, Try.ntmps72
  go_wp2_with fail
  go_ret
  exact ⟨rfl, rfl⟩

/-- What 'do' leaves. -/
def DoFin (W0 B q r fb g p pm most ns rb : Nat) (sh : Nat → Nat) (ga gc : Nat) (ea : Option Addr) (ec : Nat) (kept lost c : Nat) (x y : World) : Prop :=
  KeepUp W0 x y ∧ ∃ T' up' A' age' use' R', DB y W0 B q r fb g p pm most ns rb sh ga gc ea ec T' up' A' age' use' kept lost (c + 2) R'

/-- The program's put and the document's, one behind the other. -/
theorem put_both (h : DB x W0 B q r fb g p pm most ns rb sh ga gc ea ec T up A age use kept lost c R) (hc : c ≤ 700) (va : Nat) (frame : Int) (bb : Nat) (hv1 : va < 4294967296) (hf1 : -9223372036854775808 ≤ frame) (hf2 : frame ≤ 9223372036854775807) (hb : bb < 4294967296) :
    Calls Try.prog 32 #[.pointer (some ⟨q, 0, none⟩), .int .u32 va, .int .i64 frame, .int .u32 bb] x fun e y => ∃ b, e = .returned (.bool b) ∧ KeepSt x y ∧ Hid (∀ z, Keep [] y z → Calls Try.prog 72 #[.pointer (some ⟨rb, 0, none⟩), .int .u32 va, .int .i64 frame, .int .u32 bb] z fun e' y' => e' = .returned (.bool b) ∧ DoFin W0 B q r fb g p pm most ns rb sh ga gc ea ec kept lost c x y' ∧ KeepSt z y') := by
  cases use
  · obtain ⟨g2, c2, h2, hr, uv, L, lent, f, hs, hv⟩ := h.hb.two
    obtain ⟨q0, -, -, -, q44, -⟩ := hs.qq.cells
    refine (put_off q0 q44 va frame bb).mono ?_
    rintro e y ⟨rfl, rfl⟩
    refine ⟨false, rfl, fun z cs hz => hz, Lib.hid (fun z hz => ?_)⟩
    refine (rfput_off ((hr.keep0 hz).cells.2.2.1) va frame bb).mono ?_
    rintro e y ⟨rfl, rfl⟩
    exact ⟨rfl, ⟨Keep.upTo hz (by simp), T, up, A, age, false, R, (h.hb.keep0 hz).later (by omega) (by omega), h.ag, h.ne⟩, fun z cs hz => hz⟩
  · obtain ⟨f1, f2, f3, f4, -, -, -⟩ := h.hb.facts
    have hi : (age.length - 1) + 1 = age.length := by omega
    have htot := h.tot
    have hm := h.hb.mostLe
    refine (hb_pputT h.hb (by omega) hi va frame bb hv1 hf1 hf2 hb).mono ?_
    rintro e y ⟨b, T', rfl, ⟨L, lent, hI, hq⟩, hH, hk, hst⟩
    refine ⟨b, rfl, hst, Lib.hid (fun z hz => ?_)⟩
    refine (hb_dputT (hH.keep0 hz) (by omega) hm htot hi va frame bb hv1 hf1 hf2 hb).mono ?_
    rintro e' y' ⟨b', R', rfl, hf, hH', hk', hst'⟩
    obtain ⟨rfl, hag⟩ := h.ag.put hI f1 f2 f3 hi hq hf
    exact ⟨rfl, ⟨(hk.trans (Keep.upTo hz (by simp))).trans hk', T', up, A, age, true, R', hH', hag, h.ne.putQ hq⟩, hst'⟩
end
end Go.Proofs.Ytpinoejckagjbaa
