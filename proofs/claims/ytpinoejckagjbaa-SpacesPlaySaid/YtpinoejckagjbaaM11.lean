/- Contracts of the functions that the law reaches, walked, and the plain laws on them (several texts in one). -/
import Derived.Outline
import Derived.Test.YtpinoejckagjbaaM10

/- A page is put. -/
namespace Go.Proofs.Ytpinoejckagjbaa
open Go.RowKit Go.Mum
set_option linter.unusedVariables false
set_option linter.unusedSimpArgs false
set_option maxRecDepth 100000

/-- The entry that leads to a frame. -/
def entryOf (fr bb : Nat) : Nat := 64 * fr + (bb % 16 / 2 * 2 + 1)

theorem entryOf_good {fr bb : Nat} (h : fr < 40) : GoodE (entryOf fr bb) := .inr ⟨fr, bb % 16 / 2 * 2 + 1, h, by omega, by omega, rfl⟩

theorem or_one : ∀ m, m < 16 → m ||| 1 = m / 2 * 2 + 1 := by decide

/-- All frames of the pool are lent. -/
def Full (most : Nat) (T : Nat → Tab) : Prop := ∀ j, j < most → ∃ m, m < 32 ∧ (T m).th = true ∧ (T m).fr = 20 + j

/-- The tables behind the asking for a table. -/
def Lent (T T1 : Nat → Tab) (n : Nat) : Prop := ((T n).th = true ∧ T1 = T) ∨ ((T n).th = false ∧ ∃ f, T1 = setTab T n ⟨true, f, fun _ => 0⟩)

theorem Lent.th {T T1 : Nat → Tab} {n : Nat} (h : Lent T T1 n) : (T1 n).th = true := by
  rcases h with ⟨h, rfl⟩ | ⟨_, f, rfl⟩
  · exact h
  · rw [setTab_same]

/-- What a put leaves. -/
def PutPost (s r fb g p pm most : Nat) (T : Nat → Tab) (L : List Int) (c va : Nat) (frame : Int) (bb : Nat) (w : World) (e : Ending) (w' : World) : Prop :=
  Keep [s, g, p, pm] w w' ∧
  (((32 ≤ va / 1024 ∨ frame < 0 ∨ 40 ≤ frame) ∧ e = .returned (.bool false) ∧ SAt w' s r fb g p pm most T L (c + 1)) ∨
   (va / 1024 < 32 ∧ 0 ≤ frame ∧ frame < 40 ∧ e = .returned (.bool true) ∧ ∃ T1 L', Lent T T1 (va / 1024) ∧ SAt w' s r fb g p pm most (setTab T1 (va / 1024) (setEn (T1 (va / 1024)) (va / 64 % 16) (entryOf frame.toNat bb))) L' (c + 1)) ∨
   (va / 1024 < 32 ∧ 0 ≤ frame ∧ frame < 40 ∧ (T (va / 1024)).th = false ∧ Full most T ∧ e = .returned (.bool false) ∧ SAt w' s r fb g p pm most T L (c + 1)))

set_option maxHeartbeats 4000000 in
theorem sput_at {w : World} {s r fb g p pm most : Nat} {T : Nat → Tab} {L : List Int} {c : Nat} (h : SAt w s r fb g p pm most T L c) (hc : c ≤ 1000) (va : Nat) (frame : Int) (bb : Nat) (hv : va < 4294967296) (hf1 : -9223372036854775808 ≤ frame) (hf2 : frame ≤ 9223372036854775807) (hb : bb < 4294967296) :
    Calls Try.prog 13 #[.pointer (some ⟨s, 0, none⟩), .int .u32 va, .int .i64 frame, .int .u32 bb] w (PutPost s r fb g p pm most T L c va frame bb w) := by
  have HS := Lib.hid h
  obtain ⟨c0, c1, c2, c3⟩ := h.sh.heads
  have C0 := Lib.hid (snone_at c0)
  have hsz := h.ram.sz
  rw [List.length_range] at hsz
  have C1 := Lib.hid (sframes_at hsz)
  clear hsz h
  obtain ⟨n, hn⟩ : ∃ n, n = va / 1024 := ⟨_, rfl⟩
  have n1 : (va : Int) / 1024 = (n : Int) := by omega
  by_cases hn32 : 32 ≤ n
  · have HF : Hid (PutPost s r fb g p pm most T L c va frame bb w (.returned (.bool false)) w) := Lib.hid ⟨Keep.refl _ _, .inl ⟨.inl (by omega), rfl, HS.out.later⟩⟩
    have hi : (32 : Int) ≤ (n : Int) := by omega
    clear hn hn32
    go_enter Try.func13, Try.ntmps13
    go_wp2_with fail
    refine C0.out.mono ?_
    rintro e w' ⟨rfl, rfl⟩
    go_wp2_with fail
    go_ret
    exact HF.out
  · have hi : ¬ ((32 : Int) ≤ (n : Int)) := by omega
    have hi2 : (n : Int) < 32 := by omega
    have h16 : (va : Int) < 16384 ∨ ¬ ((va : Int) < 16384) := by omega
    by_cases hfr : frame < 0 ∨ 40 ≤ frame
    · have HF : Hid (PutPost s r fb g p pm most T L c va frame bb w (.returned (.bool false)) w) := Lib.hid ⟨Keep.refl _ _, .inl ⟨.inr hfr, rfl, HS.out.later⟩⟩
      clear hn hn32
      rcases h16 with h16 | h16
      all_goals
        rcases hfr with hfr | hfr
        · go_enter Try.func13, Try.ntmps13
          go_wp2_with fail
          refine C0.out.mono ?_
          rintro e w' ⟨rfl, rfl⟩
          go_wp2_with fail
          go_ret
          exact HF.out
        · have hfr' : ¬ (frame < 0) := by omega
          go_enter Try.func13, Try.ntmps13
          go_wp2_with fail
          refine C0.out.mono ?_
          rintro e w' ⟨rfl, rfl⟩
          go_wp2_with fail
          refine C1.out.mono ?_
          rintro e w' ⟨rfl, rfl⟩
          go_wp2_with fail
          go_ret
          exact HF.out
    · obtain ⟨fr, rfl⟩ : ∃ fr : Nat, frame = fr := ⟨frame.toNat, by omega⟩
      have hf40 : fr < 40 := by omega
      have hfa : ¬ ((fr : Int) < 0) := by omega
      have hfb : ¬ ((40 : Int) ≤ (fr : Int)) := by omega
      have hfc : (fr : Int) < 40 := by omega
      have C2 := Lib.hid (stable_at HS.out hc n (by omega))
      have a1 : IntKind.u32.wrap (fr : Int) = (fr : Int) := IntWalk.u32_in _ (by omega)
      have a2 : IntKind.u32.wrap ((fr : Int) * 64) = 64 * (fr : Int) := by rw [IntWalk.u32_in _ (by omega)]; omega
      have a2' : (fr : Int) * 64 = 64 * (fr : Int) := by omega
      have a3 : bits .and .u32 (bb : Int) 15 = ((bb % 16 : Nat) : Int) := by
        have := mask_u32 bb 4 (by decide) 15 rfl hb
        exact this
      obtain ⟨m, hm⟩ : ∃ m, m = bb % 16 := ⟨_, rfl⟩
      rw [← hm] at a3
      have hm16 : m < 16 := by omega
      have a4 : bits .or .u32 (64 * (fr : Int)) (m : Int) = 64 * (fr : Int) + (m : Int) := by
        have := or_bits (f := fr) (a := 0) (b := m) (by omega) (by decide) (by omega)
        simpa using this
      have a5 : bits .or .u32 (64 * (fr : Int) + (m : Int)) 1 = ((entryOf fr bb : Nat) : Int) := by
        have := or_bits (f := fr) (a := m) (b := 1) (by omega) (by omega) (by decide)
        rw [or_one m hm16, hm] at this
        rw [hm]
        exact this
      have HG := Lib.hid (entryOf_good (fr := fr) (bb := bb) hf40)
      have hne := HS.out.ne
      have HN := Lib.hid hn
      clear hm hn hn32 hfr
      have HQ : Hid (∀ e w', ((e = .returned (.bool true) ∧ ∃ T1 L', Lent T T1 n ∧ SAt w' s r fb g p pm most (setTab T1 n (setEn (T1 n) (va / 64 % 16) (entryOf fr bb))) L' (c + 1)) ∨ ((T n).th = false ∧ Full most T ∧ e = .returned (.bool false) ∧ SAt w' s r fb g p pm most T L (c + 1))) → Keep [s, g, p, pm] w w' → PutPost s r fb g p pm most T L c va fr bb w e w') := Lib.hid (fun e w' hq hk => by
        have hlt : va / 1024 < 32 := by have := HN.out; omega
        refine ⟨hk, ?_⟩
        rw [HN.out] at hq
        rcases hq with ⟨h1, T1, L', h2, h3⟩ | ⟨h1, h2, h3, h4⟩
        · exact .inr (.inl ⟨hlt, by omega, by omega, h1, T1, L', h2, by simpa using h3⟩)
        · exact .inr (.inr ⟨hlt, by omega, by omega, h1, h2, h3, h4⟩))
      generalize entryOf fr bb = E at a5 HG HQ
      have hva : va < 32768 := by omega
      rcases h16 with h16 | h16
      all_goals
        go_enter Try.func13, Try.ntmps13
        go_wp2_with fail
        refine C0.out.mono ?_
        rintro e w' ⟨rfl, rfl⟩
        go_wp2_with fail
        refine C1.out.mono ?_
        rintro e w' ⟨rfl, rfl⟩
        go_wp2_with fail
        refine C2.out.mono ?_
        rintro e y ⟨hk, hT⟩
        have hT2 : (e = .returned (.bool true) ∧ ∃ T1 L', Lent T T1 n ∧ SAt y s r fb g p pm most T1 L' (c + 1)) ∨ (e = .returned (.bool false) ∧ (T n).th = false ∧ Full most T ∧ SAt y s r fb g p pm most T L (c + 1)) := by
          rcases hT with ⟨h1, h2, h3⟩ | ⟨h1, h2, f, L', h3⟩ | ⟨h1, h2, h3, h4⟩
          · exact .inl ⟨h2, T, L, .inl ⟨h1, rfl⟩, h3⟩
          · exact .inl ⟨h2, _, L', .inr ⟨h1, f, rfl⟩, h3⟩
          · exact .inr ⟨h2, h1, h4, h3⟩
        clear hT
        rcases hT2 with ⟨rfl, T1, L', hle, hS⟩ | ⟨rfl, h1, h2, h3⟩
        · have HY := Lib.hid (And.intro hle (And.intro hS hk))
          have C3 := Lib.hid (slay_at hS.sh hS.ram hS.inv ⟨hS.ne.1.1, hS.ne.1.2.1, hS.ne.1.2.2.1⟩ va E hva HG.out (by rw [← HN.out]; exact hle.th))
          clear hle hS hk
          go_wp2_with fail
          refine C3.out.mono ?_
          rintro e z ⟨v, rfl, h1, h2, h3⟩
          have HF : Hid (PutPost s r fb g p pm most T L c va fr bb w (.returned (.bool true)) z) := Lib.hid (HQ.out _ _ (.inl ⟨rfl, T1, _, HY.out.1, by
            obtain ⟨lent, tk, sh, hp, hb, hz⟩ := HY.out.2.1.pool
            rw [← HN.out] at h1 h2
            have hth := HY.out.1.th
            refine ⟨h1, h2, HY.out.2.1.inv.lay (by omega) (by omega) hth HG.out, ⟨lent, tk, sh, hp.keep h3 (by simp; omega) (by simp; omega), hb, fun z => ?_⟩, HY.out.2.1.ne⟩
            rw [hz]
            have hsame : ∀ m, (setTab T1 n (setEn (T1 n) (va / 64 % 16) E) m).th = (T1 m).th ∧ (setTab T1 n (setEn (T1 n) (va / 64 % 16) E) m).fr = (T1 m).fr := fun m => by
              unfold setTab
              split
              · rename_i hh; subst hh; exact ⟨rfl, rfl⟩
              · exact ⟨rfl, rfl⟩
            constructor
            · rintro ⟨m, q1, q2, q3⟩
              exact ⟨m, q1, by rw [(hsame m).1]; exact q2, by rw [(hsame m).2]; exact q3⟩
            · rintro ⟨m, q1, q2, q3⟩
              rw [(hsame m).1] at q2
              rw [(hsame m).2] at q3
              exact ⟨m, q1, q2, q3⟩⟩) (HY.out.2.2.trans (h3.weaken (by simp))))
          clear h1 h2 h3
          go_wp2_with fail
          go_ret
          exact HF.out
        · have HF := Lib.hid (HQ.out _ _ (.inr ⟨h1, h2, rfl, h3⟩) hk)
          clear h1 h2 h3 hk
          go_wp2_with fail
          go_ret
          exact HF.out

/-- What a drop leaves. -/
def DropPost (s r fb g p pm most : Nat) (T : Nat → Tab) (L : List Int) (c va : Nat) (w w' : World) : Prop :=
  Keep [s, g] w w' ∧
      ((¬ (va / 1024 < 32 ∧ (T (va / 1024)).th = true) ∧ SAt w' s r fb g p pm most T L c) ∨
       (va / 1024 < 32 ∧ (T (va / 1024)).th = true ∧ ∃ L', SAt w' s r fb g p pm most (setTab T (va / 1024) (setEn (T (va / 1024)) (va / 64 % 16) 0)) L' c))

set_option maxHeartbeats 4000000 in
theorem sdrop_at {w : World} {s r fb g p pm most : Nat} {T : Nat → Tab} {L : List Int} {c : Nat} (h : SAt w s r fb g p pm most T L c) (va : Nat) (hv : va < 4294967296) :
    Calls Try.prog 14 #[.pointer (some ⟨s, 0, none⟩), .int .u32 va] w (fun e w' => (∃ v, e = .returned v) ∧ DropPost s r fb g p pm most T L c va w w') := by
  have HS := Lib.hid h
  obtain ⟨c0, c1, c2, c3⟩ := h.sh.heads
  have C0 := Lib.hid (snone_at c0)
  obtain ⟨n, hn⟩ : ∃ n, n = va / 1024 := ⟨_, rfl⟩
  have n1 : (va : Int) / 1024 = (n : Int) := by omega
  have HN := Lib.hid hn
  by_cases hn32 : n < 32
  · have ct := h.sh.th hn32
    have hi : (n : Int) < 32 := by omega
    have hne := h.ne
    cases hth : (T n).th
    · have HF : Hid (DropPost s r fb g p pm most T L c va w w) := Lib.hid ⟨Keep.refl _ _, .inl ⟨by rw [← HN.out, hth]; simp, HS.out⟩⟩
      rw [hth] at ct
      clear h hn hth hne
      go_enter Try.func14, Try.ntmps14
      go_wp2_with fail
      refine C0.out.mono ?_
      rintro e w' ⟨rfl, rfl⟩
      go_wp2_with fail
      go_end0
      exact ⟨⟨_, rfl⟩, HF.out⟩
    · have C3 := Lib.hid (slay_at h.sh h.ram h.inv ⟨h.ne.1.1, h.ne.1.2.1, h.ne.1.2.2.1⟩ va 0 (by omega) (.inl rfl) (by rw [← HN.out]; exact hth))
      have HTH := Lib.hid hth
      rw [hth] at ct
      clear h hn hth
      go_enter Try.func14, Try.ntmps14
      go_wp2_with fail
      refine C0.out.mono ?_
      rintro e w' ⟨rfl, rfl⟩
      go_wp2_with fail
      refine C3.out.mono ?_
      rintro e z ⟨v, rfl, h1, h2, h3⟩
      rw [← HN.out] at h1 h2
      have HF : Hid (DropPost s r fb g p pm most T L c va w z) := Lib.hid (by
        unfold DropPost
        rw [← HN.out]
        obtain ⟨lent, tk, sh, hp, hb, hz⟩ := HS.out.pool
        refine ⟨h3, .inr ⟨by omega, HTH.out, _, h1, h2, HS.out.inv.lay (by omega) (by omega) HTH.out (.inl rfl), ⟨lent, tk, sh, hp.keep h3 (by simp; omega) (by simp; omega), hb, fun z => ?_⟩, HS.out.ne⟩⟩
        rw [hz]
        have hsame : ∀ m, (setTab T n (setEn (T n) (va / 64 % 16) 0) m).th = (T m).th ∧ (setTab T n (setEn (T n) (va / 64 % 16) 0) m).fr = (T m).fr := fun m => by
          unfold setTab
          split
          · rename_i hh; subst hh; exact ⟨rfl, rfl⟩
          · exact ⟨rfl, rfl⟩
        constructor
        · rintro ⟨m, q1, q2, q3⟩
          exact ⟨m, q1, by rw [(hsame m).1]; exact q2, by rw [(hsame m).2]; exact q3⟩
        · rintro ⟨m, q1, q2, q3⟩
          rw [(hsame m).1] at q2
          rw [(hsame m).2] at q3
          exact ⟨m, q1, q2, q3⟩)
      clear h1 h2 h3
      go_wp2_with fail
      go_end0
      exact ⟨⟨_, rfl⟩, HF.out⟩
  · have hi : ¬ ((n : Int) < 32) := by omega
    have HF : Hid (DropPost s r fb g p pm most T L c va w w) := Lib.hid ⟨Keep.refl _ _, .inl ⟨by rw [← HN.out]; exact fun q => hn32 q.1, HS.out⟩⟩
    clear h hn hn32
    go_enter Try.func14, Try.ntmps14
    go_wp2_with fail
    refine C0.out.mono ?_
    rintro e w' ⟨rfl, rfl⟩
    go_wp2_with fail
    go_end0
    exact ⟨⟨_, rfl⟩, HF.out⟩
end Go.Proofs.Ytpinoejckagjbaa

/- A shadow is made. -/
namespace Go.Proofs.Ytpinoejckagjbaa
open Go.RowKit Go.Mum
set_option linter.unusedVariables false
set_option linter.unusedSimpArgs false
set_option maxRecDepth 100000

theorem wpList_build {P : Program} {ops : Array Oper} {rest : List Oper} {op : Oper} {a : Act} {w : World} {Q : Exit → Act → World → Prop} (hgd : op.guard = none) (ty : TypeId) (parts : Array (Nat × Operand)) (ho : op.op = .build ty parts)
    (v : Value) (hv : (Instr.build ty (parts.map fun (i, x) => (i, a.eval x))).run P w = .ok v w) (h : wpList P ops Q rest (a.put op.dst v) w) : wpList P ops Q (op :: rest) a w :=
  wpList_plain hgd fun _ hK => by
    unfold Oper.wp execOp
    simp only [ho, Sem.run_bind, hv, Result.andThen_ok, Sem.run_pure]
    exact hK _ _ h

/-- The tables at first. -/
theorem build_tabs (w : World) : (Instr.build 110 #[]).run Try.prog w = .ok (.agg (tabsL (fun _ => tab0)).toArray) w := by kernel_rfl

theorem tabs_one : (tabsL (fun _ => tab0)).toArray.all (·.oneCell') = true := by kernel_rfl

theorem info_tabs : (Try.prog.info? 110).map (·.size) = some 576 := by kernel_rfl

/-- A Shadow at first. -/
def shArr (r p : Nat) (dir : Int) : Array Value := ((List.range 580).map (shCell r p dir (fun _ => tab0))).toArray

theorem build_sh (r p : Nat) (dir : Int) (w : World) : (Instr.build 112 #[(0, .pointer (some ⟨r, 0, none⟩)), (1, .pointer (some ⟨p, 0, none⟩)), (2, .int .i64 dir)]).run Try.prog w = .ok (.agg (shArr r p dir)) w := by kernel_rfl

set_option maxHeartbeats 4000000 in
theorem sbegin_at {w : World} {s r fb g p n : Nat} {dir : Nat} {T : Nat → Tab} {L : List Int} (h : ShAt w s r p dir T) (hR : RamAt w r fb g (List.range n) L) (hl : L.length = 64 * n) (hn : n ≤ 512) (hd : dir + 2 ≤ n) (hne : s ≠ r ∧ s ≠ fb ∧ s ≠ g) :
    Calls Try.prog 56 #[.pointer (some ⟨s, 0, none⟩)] w fun e w' => (∃ v, e = .returned v) ∧ ShAt w' s r p dir (fun _ => tab0) ∧ RamAt w' r fb g (List.range n) (splice L (64 * dir) (List.replicate 128 0)) ∧ Keep [s, g] w w' := by
  have hth : w.there s 3 576 := fun j hj => ⟨by rw [ArrAt.cell h (by omega)]; rfl, ArrAt.frozen h _⟩
  have HS := Lib.hid (And.intro h hR)
  clear h hR
  go_enter Try.func56, Try.ntmps56
  go_wp2_with (first
    | (refine wpList_build rfl 110 #[] rfl (.agg (tabsL (fun _ => tab0)).toArray) (by exact build_tabs _) ?_)
    | (refine wpList_store_mid rfl 110 (.tmp 7) (.tmp 5) rfl s 3 (tabsL (fun _ => tab0)).toArray (by rfl) (by rfl) (by rw [List.size_toArray, tabsL_len]; exact hth) (by rw [List.size_toArray, tabsL_len]; exact info_tabs) tabs_one ?_))
  try simp only [Act.put]
  generalize hy1 : World.setCells w _ _ _ = y1
  have H1 : Hid (ShAt y1 s r p dir (fun _ => tab0) ∧ RamAt y1 r fb g (List.range n) L ∧ Keep [s] w y1) := Lib.hid (by
    have e : y1 = w.setCells s 3 (tabsL (fun _ => tab0)) := by rw [← hy1]
    have hk : Keep [s] w y1 := by rw [e]; exact keepSets (.inl (by simp)) _ _ _ (Keep.refl _ _)
    exact ⟨by rw [e]; exact HS.out.1.tables _, HS.out.2.keep hk (by simp; omega) (by simp; omega) (by simp; omega), hk⟩)
  clear hy1 hth
  obtain ⟨q0, q1, q2, q3⟩ := H1.out.1.heads
  have hmk := make_u8 128 (by omega) 128 rfl
  obtain ⟨Zs, hZs⟩ : ∃ Z, Z = List.replicate 128 (0 : Int) := ⟨_, rfl⟩
  rw [← hZs] at hmk
  have HZ := Lib.hid hZs
  have HZl : Zs.length = 128 := by rw [hZs]; simp
  clear hZs
  have hcast : ((64 * dir : Nat) : Int) = 64 * (dir : Int) := by omega
  refine wp_region_held_drew (S := fun x => x.cell? ⟨s, 0, none⟩ = some (.pointer (some ⟨r, 0, none⟩)) ∧ x.cell? ⟨s, 2, none⟩ = some (.int .i64 dir)) (by kernel_rfl) ⟨q0, q2⟩ (fun hHeld => ?_)
  skip
  refine wpAnyH_take (i := 0) (oi := { dst := some 8, op := Op.move (Operand.tmp 0), type := 27, pos := "shadow.go:47", after := #[], guard := none }) (v := ?_) rfl (by kernel_rfl) (by kernel_rfl) (by kernel_rfl) (fun _ _ _ h => h) (Or.inl ⟨by rfl, ?_⟩) (by assumption) ?_
  rotate_left
  focus (intro w hSw; (try dsimp only at hSw); go_simp <;> with_reducible rfl)
  try simp only [Act.put, List.setIfInBounds_toArray, List.set_cons_zero, List.set_cons_succ]
  refine wpAnyH_take (i := 1) (oi := { dst := some 9, op := Op.nilCheck (Operand.tmp 8), type := 0, pos := "shadow.go:47", after := #[{ on := 0, ground := Ground.data }], guard := none }) (v := ?_) rfl (by kernel_rfl) (by kernel_rfl) (by kernel_rfl) (fun _ _ _ h => h) (Or.inl ⟨by rfl, ?_⟩) (by assumption) ?_
  rotate_left
  focus (intro w hSw; (try dsimp only at hSw); go_simp <;> with_reducible rfl)
  try simp only [Act.put, List.setIfInBounds_toArray, List.set_cons_zero, List.set_cons_succ]
  refine wpAnyH_take (i := 2) (oi := { dst := some 10, op := Op.fieldAddr 112 (Operand.tmp 9) 0, type := 0, pos := "shadow.go:47", after := #[{ on := 1, ground := Ground.data }], guard := none }) (v := ?_) rfl (by kernel_rfl) (by kernel_rfl) (by kernel_rfl) (fun _ _ _ h => h) (Or.inl ⟨by rfl, ?_⟩) (by assumption) ?_
  rotate_left
  focus (intro w hSw; (try dsimp only at hSw); go_simp <;> with_reducible rfl)
  try simp only [Act.put, List.setIfInBounds_toArray, List.set_cons_zero, List.set_cons_succ]
  refine wpAnyH_take (i := 3) (oi := { dst := some 11, op := Op.load 26 (Operand.tmp 10), type := 26, pos := "shadow.go:47", after := #[{ on := 2, ground := Ground.data }], guard := none }) (v := ?_) rfl (by kernel_rfl) (by kernel_rfl) (by kernel_rfl) (fun _ _ _ h => h) (Or.inl ⟨by rfl, ?_⟩) (by assumption) ?_
  rotate_left
  focus (intro w hSw; (try dsimp only at hSw); go_simp <;> with_reducible rfl)
  try simp only [Act.put, List.setIfInBounds_toArray, List.set_cons_zero, List.set_cons_succ]
  refine wpAnyH_take (i := 4) (oi := { dst := some 12, op := Op.move (Operand.tmp 0), type := 27, pos := "shadow.go:47", after := #[], guard := none }) (v := ?_) rfl (by kernel_rfl) (by kernel_rfl) (by kernel_rfl) (fun _ _ _ h => h) (Or.inl ⟨by rfl, ?_⟩) (by assumption) ?_
  rotate_left
  focus (intro w hSw; (try dsimp only at hSw); go_simp <;> with_reducible rfl)
  try simp only [Act.put, List.setIfInBounds_toArray, List.set_cons_zero, List.set_cons_succ]
  refine wpAnyH_ready (rs := [5, 6]) (by kernel_rfl) (by simp) ?_
  refine AllReadyH.cons (o := { dst := some 13, op := Op.call { callee := Callee.value (Operand.func 16), args := #[Operand.tmp 12], argTypes := #[27] }, type := 22, pos := "shadow.go:47", after := #[{ on := 4, ground := Ground.data }], guard := none }) rfl (fun K hK => ?_) (AllReadyH.cons (o := { dst := some 14, op := Op.makeSlice 48 (Operand.const (Value.int IntKind.i64 128)) (Operand.const (Value.int IntKind.i64 128)), type := 48, pos := "shadow.go:47", after := #[], guard := none }) rfl (fun K hK => ?_) AllReadyH.nil)
  all_goals go_simp
  · skip
    refine (sroot_at (dir := dir) hHeld.1 hHeld.2 (by omega)).mono ?_
    rintro e y5 ⟨rfl, rfl⟩
    go_wp2_with fail
    refine shut_grow (fun x => x.cell? ⟨s, 0, none⟩ = some (.pointer (some ⟨r, 0, none⟩)) ∧ x.cell? ⟨s, 2, none⟩ = some (.int .i64 dir)) hK (fun _ h => h) hHeld (fun hHeld => ?_)
    clear hK K
    refine wpAnyH_ready (rs := [6]) (by kernel_rfl) (by simp) ?_
    refine AllReadyH.cons (o := { dst := some 14, op := Op.makeSlice 48 (Operand.const (Value.int IntKind.i64 128)) (Operand.const (Value.int IntKind.i64 128)), type := 48, pos := "shadow.go:47", after := #[], guard := none }) rfl (fun K hK => ?_) AllReadyH.nil
    go_simp
    obtain ⟨mk, hmk2⟩ : ∃ b, b = y1.heap.size := ⟨_, rfl⟩
    rw [← hmk2]
    generalize hy2 : World.drew (World.alloc y1 _) = y2
    have H2 : Hid (ShAt y2 s r p dir (fun _ => tab0) ∧ RamAt y2 r fb g (List.range n) L ∧ Row y2 (some ⟨mk, 0, none⟩) Zs.length Zs ∧ Keep [s] w y2 ∧ mk = y1.heap.size) := Lib.hid (by
      have hk : Keep [] y1 y2 := by subst hy2; exact ((Keep.refl [] y1).alloc _).drew
      have h1 : y2.heap[mk]? = some (.cells (u8s Zs).toArray 5 (0, 0)) := by subst hy2; exact heap_alloc_at _ hmk2
      exact ⟨H1.out.1.keep hk (by simp), H1.out.2.1.keep0 hk, RefAt.row ⟨.inr ⟨_, rfl, h1⟩, (by intro x hx; rw [HZ.out] at hx; rw [List.eq_of_mem_replicate hx]; omega), by rw [HZ.out]; simp⟩, H1.out.2.2.trans (hk.weaken (by simp)), hmk2⟩)
    have d1 := H2.out.1.heads
    clear hy2 hmk2
    refine shut_grow (fun x => x.cell? ⟨s, 0, none⟩ = some (.pointer (some ⟨r, 0, none⟩)) ∧ x.cell? ⟨s, 2, none⟩ = some (.int .i64 dir)) hK (fun _ h => h) ⟨d1.1, d1.2.2.1⟩ (fun hHeld => ?_)
    clear hK K
    refine wpAnyH_ready (rs := [7]) (by kernel_rfl) (by simp) ?_
    refine AllReadyH.cons (o := { dst := some 15, op := Op.call { callee := Callee.value (Operand.func 44), args := #[Operand.tmp 11, Operand.tmp 13, Operand.tmp 14], argTypes := #[26, 22, 48] }, type := 4, pos := "shadow.go:47", after := #[{ on := 3, ground := Ground.data }, { on := 5, ground := Ground.data }, { on := 6, ground := Ground.data }, { on := 5, ground := Ground.chain }], guard := none }) rfl (fun K hK => ?_) AllReadyH.nil
    go_simp
    have hF := fill_c H2.out.2.1 hl hn (64 * dir) H2.out.2.2.1 (by intro b hb; cases hb; have := lt_of_heap H1.out.2.1.data; have := H2.out.2.2.2.2; simp; omega) (by omega)
    rw [HZl, hcast] at hF
    refine hF.mono ?_
    rintro e y3 ⟨rfl, hR3, hk3⟩
    have HF : Hid (ShAt y3 s r p dir (fun _ => tab0) ∧ RamAt y3 r fb g (List.range n) (splice L (64 * dir) (List.replicate 128 0)) ∧ Keep [s, g] w y3) := Lib.hid (by
      rw [HZ.out] at hR3
      exact ⟨H2.out.1.keep hk3 (by simp; omega), hR3, (H2.out.2.2.2.1.weaken (by simp)).trans (hk3.weaken (by simp))⟩)
    obtain ⟨q0, q1, q2, q3⟩ := HF.out.1.heads
    clear hR3 hk3 hF
    go_wp2_with fail
    refine shut_grow (fun x => x = y3) hK (fun _ h => by rw [h]; exact ⟨q0, q2⟩) rfl (fun hHeld => ?_)
    clear hK K
    refine wpAnyH_done (by kernel_rfl) ?_ _
    clear hHeld
    go_wp2_with fail
    refine wp_loop_rounds 1 ?_
    rw [rounds_succ]
    go_wp2_with fail
    go_end0
    exact ⟨⟨_, rfl⟩, HF.out⟩
  · skip
    obtain ⟨mk, hmk2⟩ : ∃ b, b = y1.heap.size := ⟨_, rfl⟩
    rw [← hmk2]
    generalize hy2 : World.drew (World.alloc y1 _) = y2
    have H2 : Hid (ShAt y2 s r p dir (fun _ => tab0) ∧ RamAt y2 r fb g (List.range n) L ∧ Row y2 (some ⟨mk, 0, none⟩) Zs.length Zs ∧ Keep [s] w y2 ∧ mk = y1.heap.size) := Lib.hid (by
      have hk : Keep [] y1 y2 := by subst hy2; exact ((Keep.refl [] y1).alloc _).drew
      have h1 : y2.heap[mk]? = some (.cells (u8s Zs).toArray 5 (0, 0)) := by subst hy2; exact heap_alloc_at _ hmk2
      exact ⟨H1.out.1.keep hk (by simp), H1.out.2.1.keep0 hk, RefAt.row ⟨.inr ⟨_, rfl, h1⟩, (by intro x hx; rw [HZ.out] at hx; rw [List.eq_of_mem_replicate hx]; omega), by rw [HZ.out]; simp⟩, H1.out.2.2.trans (hk.weaken (by simp)), hmk2⟩)
    have d1 := H2.out.1.heads
    clear hy2 hmk2
    refine shut_grow (fun x => x.cell? ⟨s, 0, none⟩ = some (.pointer (some ⟨r, 0, none⟩)) ∧ x.cell? ⟨s, 2, none⟩ = some (.int .i64 dir)) hK (fun _ h => h) ⟨d1.1, d1.2.2.1⟩ (fun hHeld => ?_)
    clear hK K
    refine wpAnyH_ready (rs := [5]) (by kernel_rfl) (by simp) ?_
    refine AllReadyH.cons (o := { dst := some 13, op := Op.call { callee := Callee.value (Operand.func 16), args := #[Operand.tmp 12], argTypes := #[27] }, type := 22, pos := "shadow.go:47", after := #[{ on := 4, ground := Ground.data }], guard := none }) rfl (fun K hK => ?_) AllReadyH.nil
    go_simp
    refine (sroot_at (dir := dir) hHeld.1 hHeld.2 (by omega)).mono ?_
    rintro e y5 ⟨rfl, rfl⟩
    go_wp2_with fail
    refine shut_grow (fun x => x.cell? ⟨s, 0, none⟩ = some (.pointer (some ⟨r, 0, none⟩)) ∧ x.cell? ⟨s, 2, none⟩ = some (.int .i64 dir)) hK (fun _ h => h) hHeld (fun hHeld => ?_)
    clear hK K
    refine wpAnyH_ready (rs := [7]) (by kernel_rfl) (by simp) ?_
    refine AllReadyH.cons (o := { dst := some 15, op := Op.call { callee := Callee.value (Operand.func 44), args := #[Operand.tmp 11, Operand.tmp 13, Operand.tmp 14], argTypes := #[26, 22, 48] }, type := 4, pos := "shadow.go:47", after := #[{ on := 3, ground := Ground.data }, { on := 5, ground := Ground.data }, { on := 6, ground := Ground.data }, { on := 5, ground := Ground.chain }], guard := none }) rfl (fun K hK => ?_) AllReadyH.nil
    go_simp
    have hF := fill_c H2.out.2.1 hl hn (64 * dir) H2.out.2.2.1 (by intro b hb; cases hb; have := lt_of_heap H1.out.2.1.data; have := H2.out.2.2.2.2; simp; omega) (by omega)
    rw [HZl, hcast] at hF
    refine hF.mono ?_
    rintro e y3 ⟨rfl, hR3, hk3⟩
    have HF : Hid (ShAt y3 s r p dir (fun _ => tab0) ∧ RamAt y3 r fb g (List.range n) (splice L (64 * dir) (List.replicate 128 0)) ∧ Keep [s, g] w y3) := Lib.hid (by
      rw [HZ.out] at hR3
      exact ⟨H2.out.1.keep hk3 (by simp; omega), hR3, (H2.out.2.2.2.1.weaken (by simp)).trans (hk3.weaken (by simp))⟩)
    obtain ⟨q0, q1, q2, q3⟩ := HF.out.1.heads
    clear hR3 hk3 hF
    go_wp2_with fail
    refine shut_grow (fun x => x = y3) hK (fun _ h => by rw [h]; exact ⟨q0, q2⟩) rfl (fun hHeld => ?_)
    clear hK K
    refine wpAnyH_done (by kernel_rfl) ?_ _
    clear hHeld
    go_wp2_with fail
    refine wp_loop_rounds 1 ?_
    rw [rounds_succ]
    go_wp2_with fail
    go_end0
    exact ⟨⟨_, rfl⟩, HF.out⟩
theorem shAt_new (w : World) (r p : Nat) (dir : Int) : ShAt (w.alloc (.cells (shArr r p dir) 112)) w.heap.size r p dir (fun _ => tab0) :=
  ⟨shArr r p dir, heap_alloc_same w _, by unfold shArr; simp, fun j hj => by
    unfold shArr
    rw [List.getElem?_toArray, List.getElem?_map, List.getElem?_range hj]
    rfl⟩

/-- What New leaves. -/
def NewShadow (r fb g p n dir : Nat) (L : List Int) (w : World) (e : Ending) (w' : World) : Prop :=
  ∃ s, w.heap.size ≤ s ∧ e = .returned (.tuple #[.pointer (some ⟨s, 0, none⟩), .int .i64 0]) ∧ ShAt w' s r p dir (fun _ => tab0) ∧ RamAt w' r fb g (List.range n) (splice L (64 * dir) (List.replicate 128 0)) ∧ Keep [g] w w'

set_option maxHeartbeats 4000000 in
theorem snew_good {w : World} {r fb g p n : Nat} {dir : Nat} {L : List Int} (hR : RamAt w r fb g (List.range n) L) (hl : L.length = 64 * n) (hn : n ≤ 512) (hd : dir + 2 ≤ n) :
    Calls Try.prog 22 #[.pointer (some ⟨r, 0, none⟩), .int .i64 dir, .pointer (some ⟨p, 0, none⟩)] w (NewShadow r fb g p n dir L w) := by
  have hsz := hR.sz
  rw [List.length_range] at hsz
  have C0 := Lib.hid (rsize_any hsz)
  have C1 := Lib.hid (sframes_at hsz)
  have HR := Lib.hid hR
  clear hsz hR
  have n0 : ¬ (64 * (n : Int) = 0) := by omega
  have n0' : ¬ (n = 0) := by omega
  have d0 : ¬ ((dir : Int) < 0) := by omega
  have d1 : IntKind.i64.wrap ((n : Int) - 1) = (n : Int) - 1 := IntWalk.i64_in _ (by omega)
  have d2 : ¬ ((n : Int) - 1 ≤ (dir : Int)) := by omega
  go_enter Try.func22, Try.ntmps22
  go_wp2_with fail
  refine C0.out.mono ?_
  rintro e w' ⟨rfl, rfl⟩
  go_wp2_with fail
  refine C1.out.mono ?_
  rintro e w' ⟨rfl, rfl⟩
  go_wp2_with (refine wpList_build rfl 112 #[(0, .tmp 25), (1, .tmp 26), (2, .tmp 27)] rfl (.agg (shArr r p dir)) (by exact build_sh r p dir _) ?_)
  obtain ⟨s, hs⟩ : ∃ s, s = w.heap.size := ⟨_, rfl⟩
  rw [← hs]
  generalize hy : World.alloc w _ = y
  have H1 : Hid (ShAt y s r p dir (fun _ => tab0) ∧ RamAt y r fb g (List.range n) L ∧ Keep [] w y) := Lib.hid (by
    subst hy hs
    exact ⟨shAt_new w r p dir, HR.out.keep0 ((Keep.refl _ _).alloc _), (Keep.refl _ _).alloc _⟩)
  have hlt : r < s ∧ fb < s ∧ g < s := by
    obtain ⟨_, h1, _⟩ := HR.out.head
    obtain ⟨_, h2, _⟩ := HR.out.rows
    have a := lt_of_heap h1
    have b := lt_of_heap h2
    have c := lt_of_heap HR.out.data
    omega
  have HS := Lib.hid hs
  clear hy hs
  refine (sbegin_at H1.out.1 H1.out.2.1 hl hn hd ⟨by omega, by omega, by omega⟩).mono ?_
  rintro e z ⟨⟨v, rfl⟩, h1, h2, h3⟩
  have HF : Hid (NewShadow r fb g p n dir L w (.returned (.tuple #[.pointer (some ⟨s, 0, none⟩), .int .i64 0])) z) := Lib.hid ⟨s, by have := HS.out; omega, rfl, h1, h2, (H1.out.2.2.weaken (l' := [g]) (by simp)).then h3 (by have := HS.out; simp; omega)⟩
  clear h1 h2 h3
  go_wp2_with fail
  go_ret2
  exact HF.out
end Go.Proofs.Ytpinoejckagjbaa
