/- Contracts of the functions that the law reaches, walked, and the plain laws on them (several texts in one). -/
import Derived.Outline
import Derived.Test.YtpinoejckagjbaaM14

/- A page is put: for any memory and pool. -/
namespace Go.Proofs.Ytpinoejckagjbaa
open Go.RowKit Go.Mum
set_option linter.unusedVariables false
set_option linter.unusedSimpArgs false
set_option maxRecDepth 100000

/-- Tables, memory and pool behind the asking for a table that could be had. -/
def ULent (P0 most dir : Nat) (T : Nat → Tab) (L lent : List Int) (T1 : Nat → Tab) (L1 lent1 : List Int) (n : Nat) : Prop :=
  ((T n).th = true ∧ T1 = T ∧ L1 = L ∧ lent1 = lent) ∨
  ((T n).th = false ∧ ∃ f : Nat, P0 ≤ f ∧ f < P0 + most ∧ ((f : Int) ∉ lent) ∧ T1 = setTab T n ⟨true, f, fun _ => 0⟩ ∧ L1 = splice (splice L (64 * f) (List.replicate 64 (0 : Int))) (64 * dir + 4 * n) (le4 (64 * f + 7)) ∧ lent1 = lent ++ [(f : Int)])

theorem ULent.th {P0 most dir : Nat} {T : Nat → Tab} {L lent : List Int} {T1 : Nat → Tab} {L1 lent1 : List Int} {n : Nat} (h : ULent P0 most dir T L lent T1 L1 lent1 n) : (T1 n).th = true := by
  rcases h with ⟨h, rfl, _⟩ | ⟨_, f, _, _, _, rfl, _⟩
  · exact h
  · rw [setTab_same]

theorem ULent.fr {P0 most dir nf : Nat} {T : Nat → Tab} {L lent : List Int} {T1 : Nat → Tab} {L1 lent1 : List Int} {n : Nat} (h : ULent P0 most dir T L lent T1 L1 lent1 n) (hf : ∀ m, m < 32 → (T m).th = true → (T m).fr < nf) (hp : P0 + most ≤ nf) (hn : n < 32) : (T1 n).fr < nf := by
  rcases h with ⟨h, rfl, _⟩ | ⟨_, f, _, h2, _, rfl, _⟩
  · exact hf n hn h
  · rw [setTab_same]
    show f < nf
    omega

/-- What a put leaves. -/
def UPut (s r fb g p pm nf dir P0 most : Nat) (uv : Value) (un : Nat) (T : Nat → Tab) (L lent : List Int) (c va : Nat) (frame : Int) (bb : Nat) (w : World) (e : Ending) (w' : World) : Prop :=
  Keep [s, g, p, pm] w w' ∧
  (((32 ≤ va / 1024 ∨ (16384 ≤ va ∧ 0 < un) ∨ frame < 0 ∨ (nf : Int) ≤ frame) ∧ e = .returned (.bool false) ∧ URaw w' s r fb g p pm nf dir P0 most uv T L lent (c + 1)) ∨
   ((va / 1024 < 32 ∧ ¬ (16384 ≤ va ∧ 0 < un) ∧ 0 ≤ frame ∧ frame < (nf : Int)) ∧ e = .returned (.bool true) ∧ ∃ T1 L1 lent1, ULent P0 most dir T L lent T1 L1 lent1 (va / 1024) ∧ URaw w' s r fb g p pm nf dir P0 most uv (setTab T1 (va / 1024) (setEn (T1 (va / 1024)) (va / 64 % 16) (entryOf frame.toNat bb))) (splice L1 (64 * (T1 (va / 1024)).fr + 4 * (va / 64 % 16)) (le4 (entryOf frame.toNat bb))) lent1 (c + 1)) ∨
   ((va / 1024 < 32 ∧ ¬ (16384 ≤ va ∧ 0 < un) ∧ 0 ≤ frame ∧ frame < (nf : Int)) ∧ (T (va / 1024)).th = false ∧ (∀ j : Nat, j < most → ((P0 : Int) + (j : Int)) ∈ lent) ∧ e = .returned (.bool false) ∧ URaw w' s r fb g p pm nf dir P0 most uv T L lent (c + 1)))

set_option maxHeartbeats 4000000 in
theorem uput_at {w : World} {s r fb g p pm nf dir P0 most : Nat} {ua : Option Addr} {un uc : Nat} {T : Nat → Tab} {L lent : List Int} {c : Nat} (h : URaw w s r fb g p pm nf dir P0 most (.slice ua un uc) T L lent c) (hc : c ≤ 100000) (hfrs : ∀ m, m < 32 → (T m).th = true → (T m).fr < nf) (va : Nat) (frame : Int) (bb : Nat) (hv : va < 4294967296) (hf1 : -9223372036854775808 ≤ frame) (hf2 : frame ≤ 9223372036854775807) (hb : bb < 4294967296) :
    Calls Try.prog 13 #[.pointer (some ⟨s, 0, none⟩), .int .u32 va, .int .i64 frame, .int .u32 bb] w (UPut s r fb g p pm nf dir P0 most (.slice ua un uc) un T L lent c va frame bb w) := by
  have HS := Lib.hid h
  have hnfb := h.nfb
  obtain ⟨c0, c1, c2, c3⟩ := h.sh.heads
  have C0 := Lib.hid (snone_at c0)
  have hsz := h.ram.sz
  rw [List.length_range] at hsz
  have C1 := Lib.hid (sframes_at hsz)
  clear hsz h
  obtain ⟨n, hn⟩ : ∃ n, n = va / 1024 := ⟨_, rfl⟩
  have n1 : (va : Int) / 1024 = (n : Int) := by omega
  by_cases hn32 : 32 ≤ n
  · have HF : Hid (UPut s r fb g p pm nf dir P0 most (.slice ua un uc) un T L lent c va frame bb w (.returned (.bool false)) w) := Lib.hid ⟨Keep.refl _ _, .inl ⟨.inl (by omega), rfl, HS.out.later⟩⟩
    have hi : (32 : Int) ≤ (n : Int) := by omega
    clear hn hn32
    go_enter Try.func13, Try.ntmps13
    go_wp2_with fail
    refine C0.out.mono ?_
    rintro e w' ⟨rfl, rfl⟩
    go_wp2_with fail
    go_ret
    exact HF.out
  · have hi : ¬ ((32 : Int) ≤ (n : Int)) := by omega
    have hi2 : (n : Int) < 32 := by omega
    by_cases hup : 16384 ≤ va ∧ 0 < un
    · have HF : Hid (UPut s r fb g p pm nf dir P0 most (.slice ua un uc) un T L lent c va frame bb w (.returned (.bool false)) w) := Lib.hid ⟨Keep.refl _ _, .inl ⟨.inr (.inl hup), rfl, HS.out.later⟩⟩
      have hu1 : ¬ ((va : Int) < 16384) := by omega
      have hu2 : (0 : Int) < (un : Int) := by omega
      have hu3 : 0 < un := hup.2
      clear hn hn32 hup
      go_enter Try.func13, Try.ntmps13
      go_wp2_with fail
      refine C0.out.mono ?_
      rintro e w' ⟨rfl, rfl⟩
      go_wp2_with fail
      go_ret
      exact HF.out
    have h16 : (va : Int) < 16384 ∨ (¬ ((va : Int) < 16384) ∧ un = 0) := by omega
    have HUP := Lib.hid hup
    clear hup
    by_cases hfr : frame < 0 ∨ (nf : Int) ≤ frame
    · have HF : Hid (UPut s r fb g p pm nf dir P0 most (.slice ua un uc) un T L lent c va frame bb w (.returned (.bool false)) w) := Lib.hid ⟨Keep.refl _ _, .inl ⟨.inr (.inr hfr), rfl, HS.out.later⟩⟩
      clear hn hn32
      rcases h16 with h16 | ⟨h16, rfl⟩
      all_goals
        rcases hfr with hfr | hfr
        · go_enter Try.func13, Try.ntmps13
          go_wp2_with fail
          refine C0.out.mono ?_
          rintro e w' ⟨rfl, rfl⟩
          go_wp2_with fail
          go_ret
          exact HF.out
        · have hfr' : ¬ (frame < 0) := by omega
          go_enter Try.func13, Try.ntmps13
          go_wp2_with fail
          refine C0.out.mono ?_
          rintro e w' ⟨rfl, rfl⟩
          go_wp2_with fail
          refine C1.out.mono ?_
          rintro e w' ⟨rfl, rfl⟩
          go_wp2_with fail
          go_ret
          exact HF.out
    · obtain ⟨fr, rfl⟩ : ∃ fr : Nat, frame = fr := ⟨frame.toNat, by omega⟩
      have hf40 : fr < nf := by omega
      have hfa : ¬ ((fr : Int) < 0) := by omega
      have hfb : ¬ ((nf : Int) ≤ (fr : Int)) := by omega
      have hfc : (fr : Int) < (nf : Int) := by omega
      have C2 := Lib.hid (utable_at HS.out hc n (by omega))
      have a1 : IntKind.u32.wrap (fr : Int) = (fr : Int) := IntWalk.u32_in _ (by omega)
      have a2 : IntKind.u32.wrap ((fr : Int) * 64) = 64 * (fr : Int) := by rw [IntWalk.u32_in _ (by omega)]; omega
      have a2' : (fr : Int) * 64 = 64 * (fr : Int) := by omega
      have a3 : bits .and .u32 (bb : Int) 15 = ((bb % 16 : Nat) : Int) := by
        have := mask_u32 bb 4 (by decide) 15 rfl hb
        exact this
      obtain ⟨m, hm⟩ : ∃ m, m = bb % 16 := ⟨_, rfl⟩
      rw [← hm] at a3
      have hm16 : m < 16 := by omega
      have a4 : bits .or .u32 (64 * (fr : Int)) (m : Int) = 64 * (fr : Int) + (m : Int) := by
        have := or_bits (f := fr) (a := 0) (b := m) (by omega) (by decide) (by omega)
        simpa using this
      have a5 : bits .or .u32 (64 * (fr : Int) + (m : Int)) 1 = ((entryOf fr bb : Nat) : Int) := by
        have := or_bits (f := fr) (a := m) (b := 1) (by omega) (by omega) (by decide)
        rw [or_one m hm16, hm] at this
        rw [hm]
        exact this
      have HG := Lib.hid (show entryOf fr bb < 4294967296 by unfold entryOf; omega)
      have hne := HS.out.ne
      have HN := Lib.hid hn
      clear hm hn hn32 hfr
      have HQ : Hid (∀ e w', ((e = .returned (.bool true) ∧ ∃ T1 L1 lent1, ULent P0 most dir T L lent T1 L1 lent1 n ∧ URaw w' s r fb g p pm nf dir P0 most (.slice ua un uc) (setTab T1 n (setEn (T1 n) (va / 64 % 16) (entryOf fr bb))) (splice L1 (64 * (T1 n).fr + 4 * (va / 64 % 16)) (le4 (entryOf fr bb))) lent1 (c + 1)) ∨ ((T n).th = false ∧ (∀ j : Nat, j < most → ((P0 : Int) + (j : Int)) ∈ lent) ∧ e = .returned (.bool false) ∧ URaw w' s r fb g p pm nf dir P0 most (.slice ua un uc) T L lent (c + 1))) → Keep [s, g, p, pm] w w' → UPut s r fb g p pm nf dir P0 most (.slice ua un uc) un T L lent c va fr bb w e w') := Lib.hid (fun e w' hq hk => by
        have hok : va / 1024 < 32 ∧ ¬ (16384 ≤ va ∧ 0 < un) ∧ (0 : Int) ≤ (fr : Int) ∧ (fr : Int) < nf := ⟨by have := HN.out; omega, HUP.out, by omega, hfc⟩
        refine ⟨hk, ?_⟩
        rw [HN.out] at hq
        rcases hq with ⟨h1, T1, L1, lent1, h2, h3⟩ | ⟨h1, h2, h3, h4⟩
        · exact .inr (.inl ⟨hok, h1, T1, L1, lent1, h2, by simpa using h3⟩)
        · exact .inr (.inr ⟨hok, h1, h2, h3, h4⟩))
      generalize entryOf fr bb = E at a5 HG HQ
      have hva : va < 32768 := by omega
      rcases h16 with h16 | ⟨h16, rfl⟩
      · go_enter Try.func13, Try.ntmps13
        go_wp2_with fail
        refine C0.out.mono ?_
        rintro e w' ⟨rfl, rfl⟩
        go_wp2_with fail
        refine C1.out.mono ?_
        rintro e w' ⟨rfl, rfl⟩
        go_wp2_with fail
        refine C2.out.mono ?_
        rintro e y ⟨hk, hT⟩
        have hT2 : (e = .returned (.bool true) ∧ ∃ T1 L1 lent1, ULent P0 most dir T L lent T1 L1 lent1 n ∧ URaw y s r fb g p pm nf dir P0 most (.slice ua un uc) T1 L1 lent1 (c + 1)) ∨ (e = .returned (.bool false) ∧ (T n).th = false ∧ (∀ j : Nat, j < most → ((P0 : Int) + (j : Int)) ∈ lent) ∧ URaw y s r fb g p pm nf dir P0 most (.slice ua un uc) T L lent (c + 1)) := by
          rcases hT with ⟨h1, h2, h3⟩ | ⟨h1, h2, f, q1, q2, q3, h3⟩ | ⟨h1, h2, h3, h4⟩
          · exact .inl ⟨h2, T, L, lent, .inl ⟨h1, rfl, rfl, rfl⟩, h3⟩
          · exact .inl ⟨h2, _, _, _, .inr ⟨h1, f, q1, q2, q3, rfl, rfl, rfl⟩, h3⟩
          · exact .inr ⟨h2, h1, h3, h4⟩
        clear hT
        rcases hT2 with ⟨rfl, T1, L1, lent1, hle, hS⟩ | ⟨rfl, h1, h2, h3⟩
        · have HY := Lib.hid (And.intro hle (And.intro hS hk))
          have C3 := Lib.hid (ulay_at hS.sh hS.ram hS.len hS.nfb ⟨hS.ne.1.1, hS.ne.1.2.1, hS.ne.1.2.2.1⟩ va E hva HG.out (by rw [← HN.out]; exact hle.fr hfrs HS.out.hp (by omega)))
          clear hle hS hk
          go_wp2_with fail
          refine C3.out.mono ?_
          rintro e z ⟨v, rfl, h1, h2, h3⟩
          have HF := Lib.hid (HQ.out _ z (.inl ⟨rfl, T1, L1, lent1, HY.out.1, by
            obtain ⟨tk, sh, hp, hb⟩ := HY.out.2.1.pool
            rw [← HN.out] at h1 h2
            have hfr1 := HY.out.1.fr hfrs HS.out.hp (by omega)
            exact ⟨h1, h2, by rw [length_splice' _ _ _ (by rw [HY.out.2.1.len, le4_len]; omega), HY.out.2.1.len], ⟨tk, sh, hp.keep h3 (by simp; omega) (by simp; omega), hb⟩, HY.out.2.1.nfb, HY.out.2.1.hd, HY.out.2.1.hp, HY.out.2.1.ne⟩⟩) (HY.out.2.2.trans (h3.weaken (by simp))))
          clear h1 h2 h3
          go_wp2_with fail
          go_ret
          exact HF.out
        · have HF := Lib.hid (HQ.out _ _ (.inr ⟨h1, h2, rfl, h3⟩) hk)
          clear h1 h2 h3 hk
          go_wp2_with fail
          go_ret
          exact HF.out
      · go_enter Try.func13, Try.ntmps13
        go_wp2_with fail
        refine C0.out.mono ?_
        rintro e w' ⟨rfl, rfl⟩
        go_wp2_with fail
        refine C1.out.mono ?_
        rintro e w' ⟨rfl, rfl⟩
        go_wp2_with fail
        refine C2.out.mono ?_
        rintro e y ⟨hk, hT⟩
        have hT2 : (e = .returned (.bool true) ∧ ∃ T1 L1 lent1, ULent P0 most dir T L lent T1 L1 lent1 n ∧ URaw y s r fb g p pm nf dir P0 most (.slice ua 0 uc) T1 L1 lent1 (c + 1)) ∨ (e = .returned (.bool false) ∧ (T n).th = false ∧ (∀ j : Nat, j < most → ((P0 : Int) + (j : Int)) ∈ lent) ∧ URaw y s r fb g p pm nf dir P0 most (.slice ua 0 uc) T L lent (c + 1)) := by
          rcases hT with ⟨h1, h2, h3⟩ | ⟨h1, h2, f, q1, q2, q3, h3⟩ | ⟨h1, h2, h3, h4⟩
          · exact .inl ⟨h2, T, L, lent, .inl ⟨h1, rfl, rfl, rfl⟩, h3⟩
          · exact .inl ⟨h2, _, _, _, .inr ⟨h1, f, q1, q2, q3, rfl, rfl, rfl⟩, h3⟩
          · exact .inr ⟨h2, h1, h3, h4⟩
        clear hT
        rcases hT2 with ⟨rfl, T1, L1, lent1, hle, hS⟩ | ⟨rfl, h1, h2, h3⟩
        · have HY := Lib.hid (And.intro hle (And.intro hS hk))
          have C3 := Lib.hid (ulay_at hS.sh hS.ram hS.len hS.nfb ⟨hS.ne.1.1, hS.ne.1.2.1, hS.ne.1.2.2.1⟩ va E hva HG.out (by rw [← HN.out]; exact hle.fr hfrs HS.out.hp (by omega)))
          clear hle hS hk
          go_wp2_with fail
          refine C3.out.mono ?_
          rintro e z ⟨v, rfl, h1, h2, h3⟩
          have HF := Lib.hid (HQ.out _ z (.inl ⟨rfl, T1, L1, lent1, HY.out.1, by
            obtain ⟨tk, sh, hp, hb⟩ := HY.out.2.1.pool
            rw [← HN.out] at h1 h2
            have hfr1 := HY.out.1.fr hfrs HS.out.hp (by omega)
            exact ⟨h1, h2, by rw [length_splice' _ _ _ (by rw [HY.out.2.1.len, le4_len]; omega), HY.out.2.1.len], ⟨tk, sh, hp.keep h3 (by simp; omega) (by simp; omega), hb⟩, HY.out.2.1.nfb, HY.out.2.1.hd, HY.out.2.1.hp, HY.out.2.1.ne⟩⟩) (HY.out.2.2.trans (h3.weaken (by simp))))
          clear h1 h2 h3
          go_wp2_with fail
          go_ret
          exact HF.out
        · have HF := Lib.hid (HQ.out _ _ (.inr ⟨h1, h2, rfl, h3⟩) hk)
          clear h1 h2 h3 hk
          go_wp2_with fail
          go_ret
          exact HF.out
end Go.Proofs.Ytpinoejckagjbaa
