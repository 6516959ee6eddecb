/- The program's spaces and the document's: selects, keys, what is left. -/
import Derived.Test.YtpinoejckagjbaaVSpH
namespace Go.Proofs.Ytpinoejckagjbaa
open Go.RowKit Go.Mum
set_option linter.unusedVariables false
set_option linter.unusedSimpArgs false
set_option maxRecDepth 100000

/-- Steps that came in. -/
def StepsIn25 (w : World) (s : Option Addr) (len : Nat) : Prop :=
  len = 0 ∨ ∃ lb off, s = some ⟨lb, off, none⟩ ∧ len ≤ 9223372036854775807 ∧ ∀ i, i < len → ∃ kd kp kr u va fr bb, StOk kd kp kr va fr bb ∧ ∀ j v, (stC kd kp kr u va fr bb)[j]? = some v → w.cell? ⟨lb, off + i * 7 + j, none⟩ = some v

theorem steps25 {w : World} {B n : Nat} {s : Option Addr} {len cap : Nat} (h : Fits Try.prog w B n 87 [.slice s len cap]) : StepsIn25 w s len := by
  rcases h.rows Try.underlying87 7 (by kernel_rfl) (by omega) with h | ⟨lb, off, m, rfl, h0, h1, h2, h3, h4, h5⟩
  · exact .inl h
  · refine .inr ⟨lb, off, rfl, by unfold maxLen at h2; omega, fun i hi => ?_⟩
    obtain ⟨ds, hd, hc, hf⟩ := h5 i hi
    obtain ⟨kd, kp, kr, u, va, fr, bb, rfl, hok⟩ := step_of_cells hf
    refine ⟨kd, kp, kr, u, va, fr, bb, hok, fun j v hj => ?_⟩
    have hjl : j < (stC kd kp kr u va fr bb).length := by
      by_cases hh : j < (stC kd kp kr u va fr bb).length
      · exact hh
      · rw [List.getElem?_eq_none (by omega)] at hj; cases hj
    have := hc j hjl
    rw [← hj]
    exact this

theorem key_neq (a b : Nat) (w : World) : (binOp .neq 70 (.agg #[.int .u32 (a : Nat), .int .u32 (b : Nat)]) (.agg #[.int .u32 (a : Nat), .int .u32 (b : Nat)])).run Try.prog w = .ok (.bool false) w := by
  have h := key_eql a b a b w
  rw [run_eql_struct] at h
  rw [run_neq_struct]
  generalize (Op.equalIn 10000 70 (.agg #[.int .u32 (a : Nat), .int .u32 (b : Nat)]) (.agg #[.int .u32 (a : Nat), .int .u32 (b : Nat)])).run Try.prog w = res at h ⊢
  cases res <;> simp [Result.andThen] at h ⊢
  exact ⟨by rw [h.1], h.2⟩

section
variable {x y : World} {W0 B q r fb g p pm most ns rb : Nat} {sh : Nat → Nat} {ga gc : Nat} {ea : Option Addr} {ec : Nat} {T : Nat → Nat → Tab} {up : Nat → Bool} {A : QSt} {age : List Nat} {use : Bool} {kept lost c : Nat} {R : RSt}

/-- How many spaces are somebody's. -/
def cntK (R : RSt) (age : List Nat) : Nat := (age.reverse.filter R.tk).length

/-- What a select leaves. -/
def SelFin (W0 B q r fb g p pm most ns rb : Nat) (sh : Nat → Nat) (ga gc : Nat) (ea : Option Addr) (ec : Nat) (kept lost c n : Nat) (rr : Bool) (x y : World) : Prop :=
  KeepUp W0 x y ∧ ∃ T' up' A' age' R' kept' lost', DB y W0 B q r fb g p pm most ns rb sh ga gc ea ec T' up' A' age' true kept' lost' c R' ∧ ((rr = true ∧ kept' = kept + 1 ∧ lost' = lost) ∨ (rr = false ∧ kept' = kept ∧ lost' = lost + 1)) ∧ n ≤ cntK R' age'

theorem sel_both (h : DB x W0 B q r fb g p pm most ns rb sh ga gc ea ec T up A age use kept lost c R) (hc1 : kept ≤ 100000) (hc2 : lost ≤ 100000) (kp kr : Nat) (b : Bool) :
    Calls Try.prog 37 #[.pointer (some ⟨rb, 0, none⟩), .agg #[.int .u32 kp, .int .u32 kr], .bool b] x fun e y => ∃ rr, e = .returned (.bool rr) ∧ KeepUp W0 x y ∧ Hid (∀ z, Keep [] y z → Calls Try.prog 31 #[.pointer (some ⟨q, 0, none⟩), .agg #[.int .u32 kp, .int .u32 kr], .bool b] z fun e' y' => e' = .returned (.bool rr) ∧ KeepUp W0 z y' ∧ SelFin W0 B q r fb g p pm most ns rb sh ga gc ea ec kept lost c (cntK R age) rr x y') := by
  obtain ⟨f1, f2, f3, f4, -, -, -⟩ := h.hb.facts
  refine (hb_dselect h.hb kp kr b).mono ?_
  rintro e y ⟨rr, R', ager', rfl, hf, hH, hk⟩
  refine ⟨rr, rfl, hk, Lib.hid (fun z hz => ?_)⟩
  refine (hb_pselect (hH.keep0 hz) hc1 hc2 kp kr b).mono ?_
  rintro e' y' ⟨rr', A', age', T', up', kept', lost', rfl, hq, hH', hk'⟩
  obtain ⟨rfl, rfl, hag⟩ := h.ag.select f1 f2 f3 f4.1 hq hf
  refine ⟨rfl, hk', (hk.trans (Keep.upTo hz (by simp))).trans hk', T', up', A', age', R', kept', lost', ⟨hH', hag, h.ne.selQ hq⟩, ?_, hf.count f1⟩
  rcases hq with ⟨n, _, _, _, h1, _, _, _, _, h2, h3⟩ | ⟨_, h1, _, _, _, _, _, h2, h3⟩
  · exact .inl ⟨h1, h2, h3⟩
  · exact .inr ⟨h1, h2, h3⟩

theorem dkeys_at (h : DB x W0 B q r fb g p pm most ns rb sh ga gc ea ec T up A age use kept lost c R) :
    Calls Try.prog 36 #[.pointer (some ⟨rb, 0, none⟩)] x (RfKeys R age x) := by
  obtain ⟨g2, c2, h2, hr, hs⟩ := h.hb.two
  exact rfkeys_at hr

theorem pkeys_at (h : DB x W0 B q r fb g p pm most ns rb sh ga gc ea ec T up A age use kept lost c R) :
    Calls Try.prog 35 #[.pointer (some ⟨q, 0, none⟩)] x fun e y => ∃ v, e = .returned v ∧ y.ownsRow x.heap.size 70 2 v (age.reverse.filter R.tk).length ((age.reverse.filter R.tk).flatMap (keyV R)) ∧ Keep [] x y := by
  obtain ⟨g2, c2, h2, hr, uv, L, lent, f, hs, hv⟩ := h.hb.two
  obtain ⟨k1, k2⟩ := h.ag.keys
  refine (spkeys_at hs.qq).mono ?_
  rintro e y ⟨v, he, hrow, hk⟩
  refine ⟨v, he, ?_, hk⟩
  rw [← k1]
  have : (age.reverse.filter A.tk).flatMap (keyV R) = (age.reverse.filter A.tk).flatMap (keyW A) := by
    have hh : ∀ l : List Nat, (∀ k ∈ l, A.kp k = R.kp k ∧ A.kr k = R.kr k) → l.flatMap (keyV R) = l.flatMap (keyW A) := fun l hl => by
      induction l with
      | nil => rfl
      | cons a l ih =>
        rw [List.flatMap_cons, List.flatMap_cons, ih (fun k hk => hl k (by simp [hk]))]
        have := hl a (by simp)
        unfold keyV keyW
        rw [this.1, this.2]
    exact hh _ k2
  rw [this]
  exact hrow

theorem pleft25_at (h : DB x W0 B q r fb g p pm most ns rb sh ga gc ea ec T up A age use kept lost c R) :
    Calls Try.prog 24 #[.pointer (some ⟨p, 0, none⟩)] x fun e y => e = .returned (.int .i64 ((most : Int) - (totS R age : Nat))) ∧ Keep [] x y := by
  obtain ⟨g2, c2, h2, hr, uv, L, lent, f, hs, hv⟩ := h.hb.two
  obtain ⟨tk, sn, hp, -⟩ := hs.m.pool
  have hl := h.ag.lentS hs.m.inv hs.qq.nd hs.qq.len hs.qq.lt
  have hm := hs.m.inv.mst
  have hle := hs.m.inv.lent_le
  rw [← hl]
  exact (pleft_at hp (by omega) (by omega) (by omega)).mono fun e y ⟨h1, k, h2⟩ => ⟨h1, by rw [h2]; exact (Keep.refl _ _).drewN _⟩

theorem dleft25_at (h : DB x W0 B q r fb g p pm most ns rb sh ga gc ea ec T up A age use kept lost c R) (hc : c ≤ 1000) :
    Calls Try.prog 39 #[.pointer (some ⟨rb, 0, none⟩)] x fun e y => e = .returned (.int .i64 ((most : Int) - (totS R age : Nat))) ∧ x = y := by
  have hm := h.hb.mostLe
  obtain ⟨g2, c2, h2, hr, hs⟩ := h.hb.two
  have C := Lib.hid (rfleft_at hr (by omega) (by omega))
  clear h hr hs
  go_enter Try.func39, Try.ntmps39
  go_wp2_with fail
  refine C.out.mono ?_
  rintro e y ⟨rfl, rfl⟩
  go_wp2_with fail
  go_ret
  exact ⟨rfl, rfl⟩

theorem pages25 (h : DB x W0 B q r fb g p pm most ns rb sh ga gc ea ec T up A age use kept lost c R) (hc : c ≤ 1000) :
    Calls Try.prog 40 #[.pointer (some ⟨r, 0, none⟩), .pointer (some ⟨q, 0, none⟩), .pointer (some ⟨rb, 0, none⟩)] x fun e y => e = .returned (.bool true) ∧ Keep [] x y := by
  cases use
  · exact pages25_off h
  · exact pages25_at h hc

theorem counts25_at (h : DB x W0 B q r fb g p pm most ns rb sh ga gc ea ec T up A age use kept lost c R) :
    Calls Try.prog 41 #[.pointer (some ⟨q, 0, none⟩)] x fun e y => e = .returned (.tuple #[.int .i64 (kept : Nat), .int .i64 (lost : Nat)]) ∧ Keep [] x y := by
  obtain ⟨g2, c2, h2, hr, uv, L, lent, f, hs, hv⟩ := h.hb.two
  exact (counts_at hs).mono fun e y ⟨h1, k, h2⟩ => ⟨h1, by rw [h2]; exact (Keep.refl _ _).drewN _⟩
end
end Go.Proofs.Ytpinoejckagjbaa
