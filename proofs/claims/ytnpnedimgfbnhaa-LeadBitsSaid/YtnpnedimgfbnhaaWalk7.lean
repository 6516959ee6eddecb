/- Where accesses lead, as the document says; entries soiled. -/
import Derived.Test.YtnpnedimgfbnhaaWalk6
import Derived.Outline
namespace Go.Proofs.Ytnpnedimgfbnhaa
open Go.RowKit Go.Mum
set_option linter.unusedVariables false

theorem DMem.keep0 {w x : World} {s : Value} {n : Nat} {rd : Nat → Option Nat} (h : DMem w s n rd) (hk : Keep [] w x) : DMem x s n rd :=
  ⟨fun y hy => h.word y (hk.trans hy), fun y hy => h.byte y (hk.trans hy), h.lt, h.n512, h.isS⟩

set_option maxRecDepth 100000 in
set_option maxHeartbeats 4000000 in
theorem rto_at {w : World} {s : Value} {n : Nat} {rd : Nat → Option Nat} (h : DMem w s n rd) (root dirs ps va : Nat) (kind : Int) (hr : root < 4294967296) (hd : dirs ≤ 64) (hp : ps < 4294967296) (hv : va < 4294967296) (hk1 : -9223372036854775808 ≤ kind) (hk2 : kind ≤ 9223372036854775807) :
    Calls Try.prog 32 #[.agg #[s], .int .u32 root, .int .i64 dirs, .int .u32 ps, .int .u32 va, .int .i64 kind] w (ToPost (toF rd n root dirs ps va kind) w) := by
  obtain ⟨sa, sm, sc, rfl⟩ := h.isS
  have HM := Lib.hid h
  clear h
  generalize hq : toF rd n root dirs ps va kind = q
  by_cases hkb : kind < 1 ∨ 3 < kind
  · have hq0 : q = (0, false) := by
      rw [← hq]
      unfold toF
      by_cases h4 : ps / 4 % 2 = 0
      · rw [if_pos h4, if_pos (.inr hkb)]
      · rw [if_neg h4]
        cases lookF rd n root dirs va with
        | none => rfl
        | some l =>
          obtain ⟨b, a, e, d, t, p⟩ := l
          have hm : mayB b kind (ps % 2 == 1) = false := by
            unfold mayB
            have n3 : ¬ kind = 3 := by omega
            have n2 : ¬ kind = 2 := by omega
            have n1 : ¬ kind = 1 := by omega
            simp [n1, n2, n3]
          simp [hm]
    subst hq0
    clear hq
    have HK : Hid (∀ o, Keep [] w (w.alloc o)) := Lib.hid fun o => (Keep.refl _ _).alloc o
    rcases hkb with hk | hk
    · go_enter Try.func32, Try.ntmps32
      go_wp2_with fail
      go_ret2
      exact ⟨rfl, HK.out _⟩
    · have hk3 : ¬ (kind < 1) := by omega
      go_enter Try.func32, Try.ntmps32
      go_wp2_with fail
      go_ret2
      exact ⟨rfl, HK.out _⟩
  · unfold toF at hq
    have j1 : ¬ (kind < 1) := by omega
    have j3 : ¬ (3 < kind) := by omega
    by_cases h4 : ps / 4 % 2 = 0
    · rw [if_pos h4] at hq
      have H4 := has_at ps 4 hp (by omega) (by omega)
      rw [has0 h4] at H4
      have H4 := Lib.hid H4
      obtain ⟨zb, C⟩ := HM.out.byte (w.alloc (.cells #[.slice sa sm sc] 50)) ((Keep.refl _ _).alloc _) va hv
      by_cases hbig : 64 * n ≤ va
      · rw [if_pos (.inl hbig)] at hq
        subst hq
        rw [decide_eq_false (by omega)] at C
        have C := Lib.hid C
        clear hbig h4 hkb
        go_enter Try.func32, Try.ntmps32
        go_wp2_with fail
        refine (H4.out _).mono ?_
        rintro e z ⟨rfl, rfl⟩
        go_wp2_with fail
        refine C.out.mono ?_
        rintro e z ⟨rfl, hK⟩
        have HK := Lib.hid (((Keep.refl [] w).alloc _).trans hK)
        clear hK
        go_wp2_with fail
        go_ret2
        exact ⟨rfl, HK.out⟩
      · rw [if_neg (by omega)] at hq
        subst hq
        rw [decide_eq_true (by omega)] at C
        have C := Lib.hid C
        clear hbig h4 hkb
        go_enter Try.func32, Try.ntmps32
        go_wp2_with fail
        refine (H4.out _).mono ?_
        rintro e z ⟨rfl, rfl⟩
        go_wp2_with fail
        refine C.out.mono ?_
        rintro e z ⟨rfl, hK⟩
        have HK := Lib.hid (((Keep.refl [] w).alloc _).trans hK)
        clear hK
        go_wp2_with fail
        go_ret2
        exact ⟨rfl, HK.out⟩
    · rw [if_neg h4] at hq
      have H4 := has_at ps 4 hp (by omega) (by omega)
      rw [has1 h4] at H4
      have H4 := Lib.hid H4
      have C := Lib.hid (rlook_at (HM.out.keep0 ((Keep.refl [] w).alloc (.cells #[.slice sa sm sc] 50))) root dirs va hr hd hv)
      have hlt := HM.out.lt
      have HL := Lib.hid (fun b a e d t p (h : lookF rd n root dirs va = some (b, a, e, d, t, p)) => lookF_lt hlt h)
      clear h4 hlt hkb
      generalize lookF rd n root dirs va = l at hq C HL
      cases l with
      | none =>
        simp only at hq
        subst hq
        go_enter Try.func32, Try.ntmps32
        go_wp2_with fail
        refine (H4.out _).mono ?_
        rintro e z ⟨rfl, rfl⟩
        go_wp2_with fail
        refine C.out.mono ?_
        rintro e z ⟨rfl, hK⟩
        have HK := Lib.hid ((((Keep.refl [] w).alloc _).trans hK).alloc (.cells #[.int .u32 0, .int .u32 0, .int .u32 0, .int .i64 0, .int .i64 0, .int .i64 0] 97))
        simp only [wayV, Option.isSome_none]
        clear hK
        go_wp2_with fail
        go_quiet (fail)
        go_wp2_with fail
        go_ret2
        exact ⟨rfl, HK.out.drewN _⟩
      | some l =>
        obtain ⟨b, a, e, d, t, p⟩ := l
        obtain ⟨hb, ha, -⟩ := HL.out b a e d t p rfl
        simp only at hq
        have hu : hasB ps 1 = (ps % 2 == 1) := by
          unfold hasB
          rw [Bool.eq_iff_iff]; simp
        have H1 := Lib.hid (fun (z : World) => has_at ps 1 hp (by omega) (by omega) z)
        rw [hu] at H1
        have M := Lib.hid (fun (z : World) => rmay_at b (by omega) kind (ps % 2 == 1) hk1 hk2 z)
        generalize (ps % 2 == 1) = u at H1 M hq
        generalize mayB b kind u = ok at M hq
        have hqo : q = (if ok = true then (a, true) else (0, false)) := hq.symm
        clear hq HL hu
        cases ok with
        | true =>
          simp only [if_true] at hqo
          subst hqo
          go_enter Try.func32, Try.ntmps32
          go_wp2_with fail
          refine (H4.out _).mono ?_
          rintro e z ⟨rfl, rfl⟩
          go_wp2_with fail
          refine C.out.mono ?_
          rintro e z ⟨rfl, hK⟩
          have HK := Lib.hid ((((Keep.refl [] w).alloc _).trans hK).alloc (.cells #[.int .u32 b, .int .u32 a, .int .u32 e, .int .i64 d, .int .i64 t, .int .i64 p] 97))
          simp only [wayV, Option.isSome_some]
          clear hK
          go_wp2_with fail
          go_quiet (first | (go_at_call 34; exact quiet_same (H1.out _)) | (go_at_call 51; exact quiet_same (M.out _)))
          go_wp2_with fail
          go_ret2
          exact ⟨rfl, HK.out.drewN _⟩
        | false =>
          simp only [Bool.false_eq_true, if_false] at hqo
          subst hqo
          go_enter Try.func32, Try.ntmps32
          go_wp2_with fail
          refine (H4.out _).mono ?_
          rintro e z ⟨rfl, rfl⟩
          go_wp2_with fail
          refine C.out.mono ?_
          rintro e z ⟨rfl, hK⟩
          have HK := Lib.hid ((((Keep.refl [] w).alloc _).trans hK).alloc (.cells #[.int .u32 b, .int .u32 a, .int .u32 e, .int .i64 d, .int .i64 t, .int .i64 p] 97))
          simp only [wayV, Option.isSome_some]
          clear hK
          go_wp2_with fail
          go_quiet (first | (go_at_call 34; exact quiet_same (H1.out _)) | (go_at_call 51; exact quiet_same (M.out _)))
          go_wp2_with fail
          go_ret2
          exact ⟨rfl, HK.out.drewN _⟩
end Go.Proofs.Ytnpnedimgfbnhaa
