/- Where accesses lead; entries soiled. -/
import Derived.Test.YtnpnedimgfbnhaaWalk4
import Derived.Test.YtnpnedimgfbnhaaWalk5
import Derived.Outline
namespace Go.Proofs.Ytnpnedimgfbnhaa
open Go.RowKit Go.Mum
set_option linter.unusedVariables false

/-- Where an access leads. -/
def toF (rd : Nat → Option Nat) (n root dirs ps va : Nat) (kind : Int) : Nat × Bool :=
  if ps / 4 % 2 = 0 then if 64 * n ≤ va ∨ kind < 1 ∨ 3 < kind then (0, false) else (va, true)
  else match lookF rd n root dirs va with
    | none => (0, false)
    | some (b, a, _, _, _, _) => if mayB b kind (ps % 2 == 1) = true then (a, true) else (0, false)

def ToPost (q : Nat × Bool) (w : World) (e : Ending) (w' : World) : Prop := e = .returned (.tuple #[.int .u32 q.1, .bool q.2]) ∧ Keep [] w w'

theorem lookF_lt {rd : Nat → Option Nat} {n root dirs va : Nat} {b a e d t p : Nat} (hlt : ∀ a z, rd a = some z → z < 4294967296) (h : lookF rd n root dirs va = some (b, a, e, d, t, p)) : b < 32 ∧ a < 4294967296 ∧ e < 4294967296 := by
  unfold lookF at h
  split at h
  · cases h
  · split at h
    · cases h
    · rename_i x hx
      split at h
      · cases h
      · split at h
        · cases h
        · rename_i y hy
          split at h
          · cases h
          · split at h
            · cases h
            · simp only [Option.some.injEq, Prod.mk.injEq] at h
              obtain ⟨rfl, rfl, rfl, -⟩ := h
              have h1 := hlt _ _ hx
              have h2 := hlt _ _ hy
              refine ⟨refBits_lt _ _, ?_, ?_⟩
              · unfold endAt; omega
              · unfold tabAt; omega

set_option maxRecDepth 100000 in
set_option maxHeartbeats 4000000 in
theorem to_at {w : World} {v : Value} {n : Nat} {rd : Nat → Option Nat} (h : Mem w v n rd) (root dirs ps va : Nat) (kind : Int) (hr : root < 4294967296) (hd : dirs ≤ 64) (hp : ps < 4294967296) (hv : va < 4294967296) (hk1 : -9223372036854775808 ≤ kind) (hk2 : kind ≤ 9223372036854775807) :
    Calls Try.prog 16 #[v, .int .u32 root, .int .i64 dirs, .int .u32 ps, .int .u32 va, .int .i64 kind] w (ToPost (toF rd n root dirs ps va kind) w) := by
  have HM := Lib.hid h
  have hn := h.n512
  clear h
  generalize hq : toF rd n root dirs ps va kind = q
  unfold toF at hq
  by_cases h4 : ps / 4 % 2 = 0
  · rw [if_pos h4] at hq
    have m4 : bits .and .u32 (ps : Int) 4 = 0 := bit0 (i := 2) hp rfl (by decide) h4
    have C := Lib.hid (HM.out.size w (Keep.refl _ _))
    clear h4
    by_cases hbig : 64 * n ≤ va
    · rw [if_pos (.inl hbig)] at hq
      subst hq
      have hb' : 64 * (n : Int) ≤ (va : Int) := by omega
      clear hbig
      go_enter Try.func16, Try.ntmps16
      go_wp2_with fail
      refine C.out.mono ?_
      rintro e z ⟨rfl, rfl⟩
      go_wp2_with fail
      go_ret2
      exact ⟨rfl, Keep.refl _ _⟩
    · have hb' : ¬ (64 * (n : Int) ≤ (va : Int)) := by omega
      by_cases hk : kind < 1
      · rw [if_pos (.inr (.inl hk))] at hq
        subst hq
        clear hbig
        go_enter Try.func16, Try.ntmps16
        go_wp2_with fail
        refine C.out.mono ?_
        rintro e z ⟨rfl, rfl⟩
        go_wp2_with fail
        go_ret2
        exact ⟨rfl, Keep.refl _ _⟩
      · by_cases hk3 : 3 < kind
        · rw [if_pos (.inr (.inr hk3))] at hq
          subst hq
          clear hbig
          go_enter Try.func16, Try.ntmps16
          go_wp2_with fail
          refine C.out.mono ?_
          rintro e z ⟨rfl, rfl⟩
          go_wp2_with fail
          go_ret2
          exact ⟨rfl, Keep.refl _ _⟩
        · rw [if_neg (by omega)] at hq
          subst hq
          clear hbig
          go_enter Try.func16, Try.ntmps16
          go_wp2_with fail
          refine C.out.mono ?_
          rintro e z ⟨rfl, rfl⟩
          go_wp2_with fail
          go_ret2
          exact ⟨rfl, Keep.refl _ _⟩
  · rw [if_neg h4] at hq
    have m4 : bits .and .u32 (ps : Int) 4 = 4 := bit1 (i := 2) hp rfl (by decide) h4
    have C := Lib.hid (look_at HM.out root dirs va hr hd hv)
    have hlt := HM.out.lt
    have HL := Lib.hid (fun b a e d t p (h : lookF rd n root dirs va = some (b, a, e, d, t, p)) => lookF_lt hlt h)
    clear h4 hlt
    generalize lookF rd n root dirs va = l at hq C HL
    cases l with
    | none =>
      simp only at hq
      subst hq
      go_enter Try.func16, Try.ntmps16
      go_wp2_with fail
      refine C.out.mono ?_
      rintro e z ⟨rfl, hK⟩
      have HK := Lib.hid (hK.alloc (.cells #[.int .u32 0, .int .u32 0, .int .u32 0, .int .i64 0, .int .i64 0, .int .i64 0] 34))
      simp only [wayV, Option.isSome_none]
      clear hK
      go_wp2_with fail
      go_ret2
      exact ⟨rfl, HK.out⟩
    | some l =>
      obtain ⟨b, a, e, d, t, p⟩ := l
      obtain ⟨hb, ha, -⟩ := HL.out b a e d t p rfl
      simp only at hq
      have hps : bits .and .u32 (ps : Int) 1 = ((ps % 2 : Nat) : Int) := mask_u32 ps 1 (by decide) 1 rfl hp
      have hu : (((ps % 2 : Nat) : Int) != 0) = (ps % 2 == 1) := by
        rw [Bool.eq_iff_iff]; simp; omega
      have M := Lib.hid (fun (z : World) => may_at b (by omega) kind (ps % 2 == 1) hk1 hk2 z)
      generalize (ps % 2 == 1) = u at hu M hq
      generalize ps % 2 = p2 at hps hu
      generalize mayB b kind u = ok at M hq
      have hqo : q = (if ok = true then (a, true) else (0, false)) := hq.symm
      clear hq HL
      cases ok with
      | true =>
        simp only [if_true] at hqo
        subst hqo
        go_enter Try.func16, Try.ntmps16
        go_wp2_with fail
        refine C.out.mono ?_
        rintro e z ⟨rfl, hK⟩
        have HK := Lib.hid (hK.alloc (.cells #[.int .u32 b, .int .u32 a, .int .u32 e, .int .i64 d, .int .i64 t, .int .i64 p] 34))
        simp only [wayV, Option.isSome_some]
        clear hK
        go_wp2_with fail
        refine (M.out _).mono ?_
        rintro e z2 ⟨rfl, rfl⟩
        go_wp2_with fail
        go_ret2
        exact ⟨rfl, HK.out⟩
      | false =>
        simp only [Bool.false_eq_true, if_false] at hqo
        subst hqo
        go_enter Try.func16, Try.ntmps16
        go_wp2_with fail
        refine C.out.mono ?_
        rintro e z ⟨rfl, hK⟩
        have HK := Lib.hid (hK.alloc (.cells #[.int .u32 b, .int .u32 a, .int .u32 e, .int .i64 d, .int .i64 t, .int .i64 p] 34))
        simp only [wayV, Option.isSome_some]
        clear hK
        go_wp2_with fail
        refine (M.out _).mono ?_
        rintro e z2 ⟨rfl, rfl⟩
        go_wp2_with fail
        go_ret2
        exact ⟨rfl, HK.out⟩
end Go.Proofs.Ytnpnedimgfbnhaa
