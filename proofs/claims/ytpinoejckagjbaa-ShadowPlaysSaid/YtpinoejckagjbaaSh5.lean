/- A page is put. -/
import Derived.Test.YtpinoejckagjbaaSh4
import Derived.Outline
namespace Go.Proofs.Ytpinoejckagjbaa
open Go.RowKit Go.Mum
set_option linter.unusedVariables false
set_option linter.unusedSimpArgs false
set_option maxRecDepth 100000

/-- The entry that leads to a frame. -/
def entryOf (fr bb : Nat) : Nat := 64 * fr + (bb % 16 / 2 * 2 + 1)

theorem entryOf_good {fr bb : Nat} (h : fr < 40) : GoodE (entryOf fr bb) := .inr ⟨fr, bb % 16 / 2 * 2 + 1, h, by omega, by omega, rfl⟩

theorem or_one : ∀ m, m < 16 → m ||| 1 = m / 2 * 2 + 1 := by decide

/-- All frames of the pool are lent. -/
def Full (most : Nat) (T : Nat → Tab) : Prop := ∀ j, j < most → ∃ m, m < 32 ∧ (T m).th = true ∧ (T m).fr = 20 + j

/-- The tables behind the asking for a table. -/
def Lent (T T1 : Nat → Tab) (n : Nat) : Prop := ((T n).th = true ∧ T1 = T) ∨ ((T n).th = false ∧ ∃ f, T1 = setTab T n ⟨true, f, fun _ => 0⟩)

theorem Lent.th {T T1 : Nat → Tab} {n : Nat} (h : Lent T T1 n) : (T1 n).th = true := by
  rcases h with ⟨h, rfl⟩ | ⟨_, f, rfl⟩
  · exact h
  · rw [setTab_same]

/-- What a put leaves. -/
def PutPost (s r fb g p pm most : Nat) (T : Nat → Tab) (L : List Int) (c va : Nat) (frame : Int) (bb : Nat) (w : World) (e : Ending) (w' : World) : Prop :=
  Keep [s, g, p, pm] w w' ∧
  (((32 ≤ va / 1024 ∨ frame < 0 ∨ 40 ≤ frame) ∧ e = .returned (.bool false) ∧ SAt w' s r fb g p pm most T L (c + 1)) ∨
   (va / 1024 < 32 ∧ 0 ≤ frame ∧ frame < 40 ∧ e = .returned (.bool true) ∧ ∃ T1 L', Lent T T1 (va / 1024) ∧ SAt w' s r fb g p pm most (setTab T1 (va / 1024) (setEn (T1 (va / 1024)) (va / 64 % 16) (entryOf frame.toNat bb))) L' (c + 1)) ∨
   (va / 1024 < 32 ∧ 0 ≤ frame ∧ frame < 40 ∧ (T (va / 1024)).th = false ∧ Full most T ∧ e = .returned (.bool false) ∧ SAt w' s r fb g p pm most T L (c + 1)))

set_option maxHeartbeats 4000000 in
theorem sput_at {w : World} {s r fb g p pm most : Nat} {T : Nat → Tab} {L : List Int} {c : Nat} (h : SAt w s r fb g p pm most T L c) (hc : c ≤ 1000) (va : Nat) (frame : Int) (bb : Nat) (hv : va < 4294967296) (hf1 : -9223372036854775808 ≤ frame) (hf2 : frame ≤ 9223372036854775807) (hb : bb < 4294967296) :
    Calls Try.prog 13 #[.pointer (some ⟨s, 0, none⟩), .int .u32 va, .int .i64 frame, .int .u32 bb] w (PutPost s r fb g p pm most T L c va frame bb w) := by
  have HS := Lib.hid h
  obtain ⟨c0, c1, c2, c3⟩ := h.sh.heads
  have C0 := Lib.hid (snone_at c0)
  have hsz := h.ram.sz
  rw [List.length_range] at hsz
  have C1 := Lib.hid (sframes_at hsz)
  clear hsz h
  obtain ⟨n, hn⟩ : ∃ n, n = va / 1024 := ⟨_, rfl⟩
  have n1 : (va : Int) / 1024 = (n : Int) := by omega
  by_cases hn32 : 32 ≤ n
  · have HF : Hid (PutPost s r fb g p pm most T L c va frame bb w (.returned (.bool false)) w) := Lib.hid ⟨Keep.refl _ _, .inl ⟨.inl (by omega), rfl, HS.out.later⟩⟩
    have hi : (32 : Int) ≤ (n : Int) := by omega
    clear hn hn32
    go_enter Try.func13, Try.ntmps13
    go_wp2_with fail
    refine C0.out.mono ?_
    rintro e w' ⟨rfl, rfl⟩
    go_wp2_with fail
    go_ret
    exact HF.out
  · have hi : ¬ ((32 : Int) ≤ (n : Int)) := by omega
    have hi2 : (n : Int) < 32 := by omega
    have h16 : (va : Int) < 16384 ∨ ¬ ((va : Int) < 16384) := by omega
    by_cases hfr : frame < 0 ∨ 40 ≤ frame
    · have HF : Hid (PutPost s r fb g p pm most T L c va frame bb w (.returned (.bool false)) w) := Lib.hid ⟨Keep.refl _ _, .inl ⟨.inr hfr, rfl, HS.out.later⟩⟩
      clear hn hn32
      rcases h16 with h16 | h16
      all_goals
        rcases hfr with hfr | hfr
        · go_enter Try.func13, Try.ntmps13
          go_wp2_with fail
          refine C0.out.mono ?_
          rintro e w' ⟨rfl, rfl⟩
          go_wp2_with fail
          go_ret
          exact HF.out
        · have hfr' : ¬ (frame < 0) := by omega
          go_enter Try.func13, Try.ntmps13
          go_wp2_with fail
          refine C0.out.mono ?_
          rintro e w' ⟨rfl, rfl⟩
          go_wp2_with fail
          refine C1.out.mono ?_
          rintro e w' ⟨rfl, rfl⟩
          go_wp2_with fail
          go_ret
          exact HF.out
    · obtain ⟨fr, rfl⟩ : ∃ fr : Nat, frame = fr := ⟨frame.toNat, by omega⟩
      have hf40 : fr < 40 := by omega
      have hfa : ¬ ((fr : Int) < 0) := by omega
      have hfb : ¬ ((40 : Int) ≤ (fr : Int)) := by omega
      have hfc : (fr : Int) < 40 := by omega
      have C2 := Lib.hid (stable_at HS.out hc n (by omega))
      have a1 : IntKind.u32.wrap (fr : Int) = (fr : Int) := IntWalk.u32_in _ (by omega)
      have a2 : IntKind.u32.wrap ((fr : Int) * 64) = 64 * (fr : Int) := by rw [IntWalk.u32_in _ (by omega)]; omega
      have a2' : (fr : Int) * 64 = 64 * (fr : Int) := by omega
      have a3 : bits .and .u32 (bb : Int) 15 = ((bb % 16 : Nat) : Int) := by
        have := mask_u32 bb 4 (by decide) 15 rfl hb
        exact this
      obtain ⟨m, hm⟩ : ∃ m, m = bb % 16 := ⟨_, rfl⟩
      rw [← hm] at a3
      have hm16 : m < 16 := by omega
      have a4 : bits .or .u32 (64 * (fr : Int)) (m : Int) = 64 * (fr : Int) + (m : Int) := by
        have := or_bits (f := fr) (a := 0) (b := m) (by omega) (by decide) (by omega)
        simpa using this
      have a5 : bits .or .u32 (64 * (fr : Int) + (m : Int)) 1 = ((entryOf fr bb : Nat) : Int) := by
        have := or_bits (f := fr) (a := m) (b := 1) (by omega) (by omega) (by decide)
        rw [or_one m hm16, hm] at this
        rw [hm]
        exact this
      have HG := Lib.hid (entryOf_good (fr := fr) (bb := bb) hf40)
      have hne := HS.out.ne
      have HN := Lib.hid hn
      clear hm hn hn32 hfr
      have HQ : Hid (∀ e w', ((e = .returned (.bool true) ∧ ∃ T1 L', Lent T T1 n ∧ SAt w' s r fb g p pm most (setTab T1 n (setEn (T1 n) (va / 64 % 16) (entryOf fr bb))) L' (c + 1)) ∨ ((T n).th = false ∧ Full most T ∧ e = .returned (.bool false) ∧ SAt w' s r fb g p pm most T L (c + 1))) → Keep [s, g, p, pm] w w' → PutPost s r fb g p pm most T L c va fr bb w e w') := Lib.hid (fun e w' hq hk => by
        have hlt : va / 1024 < 32 := by have := HN.out; omega
        refine ⟨hk, ?_⟩
        rw [HN.out] at hq
        rcases hq with ⟨h1, T1, L', h2, h3⟩ | ⟨h1, h2, h3, h4⟩
        · exact .inr (.inl ⟨hlt, by omega, by omega, h1, T1, L', h2, by simpa using h3⟩)
        · exact .inr (.inr ⟨hlt, by omega, by omega, h1, h2, h3, h4⟩))
      generalize entryOf fr bb = E at a5 HG HQ
      have hva : va < 32768 := by omega
      rcases h16 with h16 | h16
      all_goals
        go_enter Try.func13, Try.ntmps13
        go_wp2_with fail
        refine C0.out.mono ?_
        rintro e w' ⟨rfl, rfl⟩
        go_wp2_with fail
        refine C1.out.mono ?_
        rintro e w' ⟨rfl, rfl⟩
        go_wp2_with fail
        refine C2.out.mono ?_
        rintro e y ⟨hk, hT⟩
        have hT2 : (e = .returned (.bool true) ∧ ∃ T1 L', Lent T T1 n ∧ SAt y s r fb g p pm most T1 L' (c + 1)) ∨ (e = .returned (.bool false) ∧ (T n).th = false ∧ Full most T ∧ SAt y s r fb g p pm most T L (c + 1)) := by
          rcases hT with ⟨h1, h2, h3⟩ | ⟨h1, h2, f, L', h3⟩ | ⟨h1, h2, h3, h4⟩
          · exact .inl ⟨h2, T, L, .inl ⟨h1, rfl⟩, h3⟩
          · exact .inl ⟨h2, _, L', .inr ⟨h1, f, rfl⟩, h3⟩
          · exact .inr ⟨h2, h1, h4, h3⟩
        clear hT
        rcases hT2 with ⟨rfl, T1, L', hle, hS⟩ | ⟨rfl, h1, h2, h3⟩
        · have HY := Lib.hid (And.intro hle (And.intro hS hk))
          have C3 := Lib.hid (slay_at hS.sh hS.ram hS.inv ⟨hS.ne.1.1, hS.ne.1.2.1, hS.ne.1.2.2.1⟩ va E hva HG.out (by rw [← HN.out]; exact hle.th))
          clear hle hS hk
          go_wp2_with fail
          refine C3.out.mono ?_
          rintro e z ⟨v, rfl, h1, h2, h3⟩
          have HF : Hid (PutPost s r fb g p pm most T L c va fr bb w (.returned (.bool true)) z) := Lib.hid (HQ.out _ _ (.inl ⟨rfl, T1, _, HY.out.1, by
            obtain ⟨lent, tk, sh, hp, hb, hz⟩ := HY.out.2.1.pool
            rw [← HN.out] at h1 h2
            have hth := HY.out.1.th
            refine ⟨h1, h2, HY.out.2.1.inv.lay (by omega) (by omega) hth HG.out, ⟨lent, tk, sh, hp.keep h3 (by simp; omega) (by simp; omega), hb, fun z => ?_⟩, HY.out.2.1.ne⟩
            rw [hz]
            have hsame : ∀ m, (setTab T1 n (setEn (T1 n) (va / 64 % 16) E) m).th = (T1 m).th ∧ (setTab T1 n (setEn (T1 n) (va / 64 % 16) E) m).fr = (T1 m).fr := fun m => by
              unfold setTab
              split
              · rename_i hh; subst hh; exact ⟨rfl, rfl⟩
              · exact ⟨rfl, rfl⟩
            constructor
            · rintro ⟨m, q1, q2, q3⟩
              exact ⟨m, q1, by rw [(hsame m).1]; exact q2, by rw [(hsame m).2]; exact q3⟩
            · rintro ⟨m, q1, q2, q3⟩
              rw [(hsame m).1] at q2
              rw [(hsame m).2] at q3
              exact ⟨m, q1, q2, q3⟩⟩) (HY.out.2.2.trans (h3.weaken (by simp))))
          clear h1 h2 h3
          go_wp2_with fail
          go_ret
          exact HF.out
        · have HF := Lib.hid (HQ.out _ _ (.inr ⟨h1, h2, rfl, h3⟩) hk)
          clear h1 h2 h3 hk
          go_wp2_with fail
          go_ret
          exact HF.out

/-- What a drop leaves. -/
def DropPost (s r fb g p pm most : Nat) (T : Nat → Tab) (L : List Int) (c va : Nat) (w w' : World) : Prop :=
  Keep [s, g] w w' ∧
      ((¬ (va / 1024 < 32 ∧ (T (va / 1024)).th = true) ∧ SAt w' s r fb g p pm most T L c) ∨
       (va / 1024 < 32 ∧ (T (va / 1024)).th = true ∧ ∃ L', SAt w' s r fb g p pm most (setTab T (va / 1024) (setEn (T (va / 1024)) (va / 64 % 16) 0)) L' c))

set_option maxHeartbeats 4000000 in
theorem sdrop_at {w : World} {s r fb g p pm most : Nat} {T : Nat → Tab} {L : List Int} {c : Nat} (h : SAt w s r fb g p pm most T L c) (va : Nat) (hv : va < 4294967296) :
    Calls Try.prog 14 #[.pointer (some ⟨s, 0, none⟩), .int .u32 va] w (fun e w' => (∃ v, e = .returned v) ∧ DropPost s r fb g p pm most T L c va w w') := by
  have HS := Lib.hid h
  obtain ⟨c0, c1, c2, c3⟩ := h.sh.heads
  have C0 := Lib.hid (snone_at c0)
  obtain ⟨n, hn⟩ : ∃ n, n = va / 1024 := ⟨_, rfl⟩
  have n1 : (va : Int) / 1024 = (n : Int) := by omega
  have HN := Lib.hid hn
  by_cases hn32 : n < 32
  · have ct := h.sh.th hn32
    have hi : (n : Int) < 32 := by omega
    have hne := h.ne
    cases hth : (T n).th
    · have HF : Hid (DropPost s r fb g p pm most T L c va w w) := Lib.hid ⟨Keep.refl _ _, .inl ⟨by rw [← HN.out, hth]; simp, HS.out⟩⟩
      rw [hth] at ct
      clear h hn hth hne
      go_enter Try.func14, Try.ntmps14
      go_wp2_with fail
      refine C0.out.mono ?_
      rintro e w' ⟨rfl, rfl⟩
      go_wp2_with fail
      go_end0
      exact ⟨⟨_, rfl⟩, HF.out⟩
    · have C3 := Lib.hid (slay_at h.sh h.ram h.inv ⟨h.ne.1.1, h.ne.1.2.1, h.ne.1.2.2.1⟩ va 0 (by omega) (.inl rfl) (by rw [← HN.out]; exact hth))
      have HTH := Lib.hid hth
      rw [hth] at ct
      clear h hn hth
      go_enter Try.func14, Try.ntmps14
      go_wp2_with fail
      refine C0.out.mono ?_
      rintro e w' ⟨rfl, rfl⟩
      go_wp2_with fail
      refine C3.out.mono ?_
      rintro e z ⟨v, rfl, h1, h2, h3⟩
      rw [← HN.out] at h1 h2
      have HF : Hid (DropPost s r fb g p pm most T L c va w z) := Lib.hid (by
        unfold DropPost
        rw [← HN.out]
        obtain ⟨lent, tk, sh, hp, hb, hz⟩ := HS.out.pool
        refine ⟨h3, .inr ⟨by omega, HTH.out, _, h1, h2, HS.out.inv.lay (by omega) (by omega) HTH.out (.inl rfl), ⟨lent, tk, sh, hp.keep h3 (by simp; omega) (by simp; omega), hb, fun z => ?_⟩, HS.out.ne⟩⟩
        rw [hz]
        have hsame : ∀ m, (setTab T n (setEn (T n) (va / 64 % 16) 0) m).th = (T m).th ∧ (setTab T n (setEn (T n) (va / 64 % 16) 0) m).fr = (T m).fr := fun m => by
          unfold setTab
          split
          · rename_i hh; subst hh; exact ⟨rfl, rfl⟩
          · exact ⟨rfl, rfl⟩
        constructor
        · rintro ⟨m, q1, q2, q3⟩
          exact ⟨m, q1, by rw [(hsame m).1]; exact q2, by rw [(hsame m).2]; exact q3⟩
        · rintro ⟨m, q1, q2, q3⟩
          rw [(hsame m).1] at q2
          rw [(hsame m).2] at q3
          exact ⟨m, q1, q2, q3⟩)
      clear h1 h2 h3
      go_wp2_with fail
      go_end0
      exact ⟨⟨_, rfl⟩, HF.out⟩
  · have hi : ¬ ((n : Int) < 32) := by omega
    have HF : Hid (DropPost s r fb g p pm most T L c va w w) := Lib.hid ⟨Keep.refl _ _, .inl ⟨by rw [← HN.out]; exact fun q => hn32 q.1, HS.out⟩⟩
    clear h hn hn32
    go_enter Try.func14, Try.ntmps14
    go_wp2_with fail
    refine C0.out.mono ?_
    rintro e w' ⟨rfl, rfl⟩
    go_wp2_with fail
    go_end0
    exact ⟨⟨_, rfl⟩, HF.out⟩
end Go.Proofs.Ytpinoejckagjbaa
