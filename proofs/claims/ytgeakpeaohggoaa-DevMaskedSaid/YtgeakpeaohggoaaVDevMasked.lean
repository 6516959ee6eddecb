/- The law DevMasked, walked. -/
import Derived.Test.YtgeakpeaohggoaaM09
namespace Go.Proofs.Ytgeakpeaohggoaa
open Go.RowKit Go.Mum
set_option linter.unusedVariables false
set_option linter.unusedSimpArgs false
set_option maxRecDepth 100000

theorem cntD_all {t : Int} : ∀ {L : List Ev}, (∀ e ∈ L, e.at' ≤ t) → cntD t L = L.length
  | [], _ => rfl
  | e :: r, h => by
    have h1 := h e (by simp)
    have h2 := cntD_all (t := t) (L := r) (fun x hx => h x (by simp [hx]))
    simp [cntD, h1, h2]

theorem errS_cases {L : List Ev} {n : Nat} (h : errS L n ≠ 0) : errS L n = 3 ∨ errS L n = 2 := by
  unfold errS at h ⊢
  split
  · exact .inl rfl
  · rename_i h1
    rw [if_neg h1] at h
    split
    · rename_i h2
      rw [if_pos h2] at h
      exact absurd rfl h
    · exact .inr rfl

theorem wantN_off (a : Nat) : wantN 0 a = 0 := rfl

theorem come1_out (t : DS) (e : Ev) : (come1 t e).out = t.out := by
  unfold come1 pressS
  split
  · rfl
  · split
    · rfl
    · split <;> rfl
theorem comes_out : ∀ (l : List Ev) (t : DS), (l.foldl come1 t).out = t.out
  | [], _ => rfl
  | e :: r, t => by rw [List.foldl_cons, comes_out r, come1_out]
theorem comeK_out (s : DS) (k : Nat) : (comeK s k).out = s.out := comes_out _ _

theorem fresh_next {W0 w x : World} {F F' : List Nat} (h : ∀ k ∈ F, W0.heap.size ≤ k) (hs : W0.heap.size ≤ w.heap.size) (h' : ∀ k ∈ F', k ∈ F ∨ w.heap.size ≤ k) : ∀ k ∈ F', W0.heap.size ≤ k :=
  fun k hk => (h' k hk).elim (h k) (fun h => by omega)
theorem keep_next {W0 w x : World} {F : List Nat} (hk0 : Keep [] W0 w) (h : ∀ k ∈ F, W0.heap.size ≤ k) (hk : Keep F w x) : Keep [] W0 x :=
  hk0.then hk (fun k hk hlt => by have := h k hk; omega)

theorem masked_end {w w1 w2 w3 w4 w5 z : World} {F F2 F3 F5 : List Nat} (h1 : Keep [] w w1 ∧ ∀ k ∈ F, w.heap.size ≤ k) (h2 : Keep F w1 w2 ∧ ∀ k ∈ F2, k ∈ F ∨ w1.heap.size ≤ k) (h3 : Keep F2 w2 w3 ∧ ∀ k ∈ F3, k ∈ F2 ∨ w2.heap.size ≤ k)
    (h4 : Keep [] w3 w4) (h5 : Keep F3 w4 w5 ∧ ∀ k ∈ F5, k ∈ F3 ∨ w4.heap.size ≤ k) (h6 : Keep [] w5 z) : Below w.heap.size w z := by
  have k2 := keep_next h1.1 h1.2 h2.1
  have f2 := fresh_next (x := w2) h1.2 h1.1.size h2.2
  have k3 := keep_next k2 f2 h3.1
  have f3 := fresh_next (x := w3) f2 k2.size h3.2
  have k5 := keep_next (k3.trans h4) f3 h5.1
  exact (k5.trans h6).below (Nat.le_refl _) (by simp)

set_option maxHeartbeats 8000000 in
theorem DevMasked_walk (s0 : Option Addr) (len0 cap0 n0 : Nat) (a1 : Int) (w : World) (w0 : Fits Try.prog w maxLen n0 23 [.slice s0 len0 cap0]) (w1 : (Lit.int .u32 a1).wf = true) :
    Calls Try.prog 7 #[.slice s0 len0 cap0, .int .u32 a1] w fun e w' => e = .returned (.bool true) ∧ Below w.heap.size w w' := by
  obtain ⟨L, rfl, hR, hL⟩ := evs_of_fits w0
  obtain ⟨m, rfl⟩ : ∃ m : Nat, a1 = (m : Int) := ⟨a1.toNat, by have := wf_u32 w1; omega⟩
  have hm : m < 4294967296 := by have := wf_u32 w1; omega
  clear w0 w1
  by_cases hE : errS L 0 = 0
  · obtain ⟨hl, _, hmay, _⟩ := errS_zero hE
    have N1 := Lib.hid (new_yes hR hL hl hmay)
    have hall : ∀ e ∈ L, e.at' ≤ 1073741824 := fun e he => ((mayB_iff e).1 (hmay e he)).2.2.2.1
    have m7 : bits .and .u32 (m : Int) 7 = ((m % 8 : Nat) : Int) := by
      have h1 := and_u32 m 7 hm (by omega)
      rw [show m &&& 7 = m % 8 from Nat.and_two_pow_sub_one_eq_mod m 3] at h1
      exact h1
    obtain ⟨s1, hs1⟩ : ∃ s1, s1 = comeK (newS L) (cntD 1073741824 (newS L).script) := ⟨_, rfl⟩
    have hout : s1.out.length < 1073741824 := by rw [hs1, comeK_out]; simp [newS]
    have HS1 := Lib.hid hs1
    clear hmay hR hall hL hE hs1
    go_enter Try.func7, Try.ntmps7
    go_wp2_with (first
      | (go_at_call 11; refine N1.out.mono ?_; rintro e w1 ⟨b, F, rfl, hd, hk, hf⟩; have HD1 := Lib.hid hd; have HK1 := Lib.hid (And.intro hk hf); clear hd hk hf)
      | (go_at_call 12; refine (come_nil HD1.out 1073741824 (by omega)).mono ?_; rintro e w2 ⟨v, rfl, hb, hbk, F2, hd2, hk2, hf2, hn2⟩; rw [← HS1.out] at hd2; have HD2 := Lib.hid hd2; have HK2 := Lib.hid (And.intro hk2 hf2); clear HD1 hb hbk hd2 hk2 hf2 hn2))
    refine (din_at HD2.out 6).mono ?_
    rintro e w2 ⟨rfl, rfl⟩
    rw [show inS s1 6 = s1.bits from rfl]
    have hb8 := HD2.out.ok.bits
    have n6 : bits .andNot .u32 (s1.bits : Int) (m : Int) = ((s1.bits &&& (7 - m % 8) : Nat) : Int) := andNot8 _ _ hb8 hm
    go_wp2_with (go_at_call 22; refine (dwrite_at HD2.out 5 m hm hout).mono ?_; rintro e w3 ⟨⟨u, rfl⟩, F3, hd3, hk3, hf3⟩; have HD3 := Lib.hid hd3; have HK3 := Lib.hid (And.intro hk3 hf3); clear hd3 hk3 hf3)
    obtain ⟨s3, hs3⟩ : ∃ s3, s3 = writeS s1 5 m := ⟨_, rfl⟩
    rw [← hs3] at HD3
    have hask : askS s3 = s1.bits &&& (7 - m % 8) := by rw [hs3]; rfl
    have hi6 : inS s3 6 = s1.bits := by rw [hs3]; rfl
    have hi5 : inS s3 5 = (m % 8 : Nat) := by rw [hs3]; rfl
    have HI6 := Lib.hid hi6
    have HS3 := Lib.hid hs3
    clear hi6 hs3
    refine (dwants_at HD3.out 2 (by omega)).mono ?_
    rintro e w4 ⟨rfl, hk4⟩
    have HD4 := Lib.hid (HD3.out.keep0 hk4)
    rw [hask]
    obtain ⟨A, hA⟩ : ∃ A, A = s1.bits &&& (7 - m % 8) := ⟨_, rfl⟩
    have hA8 : A < 8 := by rw [hA]; exact Nat.lt_of_le_of_lt Nat.and_le_left hb8
    rw [← hA] at n6 ⊢
    generalize m % 8 = mm at *
    have HI5 := Lib.hid hi5
    have HA := Lib.hid hA
    clear hi5
    clear hA hask
    have hcs : A = 0 ∨ A = 1 ∨ A = 2 ∨ A = 3 ∨ A = 4 ∨ A = 5 ∨ A = 6 ∨ A = 7 := by omega
    have e6 : bits .andNot .u32 (s1.bits : Int) 1 = ((s1.bits &&& 6 : Nat) : Int) := andNot8 s1.bits 1 hb8 (by omega)
    have e5 : bits .andNot .u32 (s1.bits : Int) 2 = ((s1.bits &&& 5 : Nat) : Int) := andNot8 s1.bits 2 hb8 (by omega)
    have e3 : bits .andNot .u32 (s1.bits : Int) 4 = ((s1.bits &&& 3 : Nat) : Int) := andNot8 s1.bits 4 hb8 (by omega)
    have q0 : IntKind.i64.wrap 0 = 0 := by decide
    have r1 : IntKind.u32.wrap 1 = 1 := by decide
    have r2 : IntKind.u32.wrap 2 = 2 := by decide
    have r4 : IntKind.u32.wrap 4 = 4 := by decide
    have q1 : IntKind.i64.wrap 1 = 1 := by decide
    have q2 : IntKind.i64.wrap 2 = 2 := by decide
    rcases hcs with rfl | rfl | rfl | rfl | rfl | rfl | rfl | rfl
    · rw [show wantN 2 0 = 0 from rfl]
      go_wp2_with (first
        | (go_at_call 13; refine (din_at HD4.out _).mono ?_; rintro e w5 ⟨rfl, rfl⟩; first | rw [HI6.out] | rw [HI5.out])
        | (go_at_call 27; refine (dtaken_at HD4.out _).mono ?_; rintro e w5 ⟨⟨u, rfl⟩, F5, hd5, hk5, hf5⟩; have HD5 := Lib.hid hd5; have HK5 := Lib.hid (And.intro hk5 hf5); clear hd5 hk5 hf5))
      obtain ⟨s5, hs5⟩ : ∃ s5, s5 = takenS s3 (0) := ⟨_, rfl⟩
      have hi6' : inS s5 6 = ((s1.bits : Nat) : Int) := by rw [hs5, HS3.out]; rfl
      have HI6' := Lib.hid hi6'
      rw [← hs5] at HD5
      clear hs5 hi6' HI6 HI5 HD4 HD3
      refine wp_region_held_drew (S := fun z => DvAt z b F5 s5 ∧ Keep [] w5 z) (by kernel_rfl) ⟨HD5.out.keep0 (Keep.refl _ _).drew, (Keep.refl _ _).drew⟩ (fun hHeld => ?_)
      generalize World.drew w5 = z0 at hHeld ⊢
      skip
      refine wpAnyH_take (i := 0) (oi := { dst := some 74, op := Op.move (Operand.tmp 5), type := 26, pos := "outright.go:172", after := #[], guard := none }) (v := ?_) rfl (by kernel_rfl) (by kernel_rfl) (by kernel_rfl) (fun _ _ _ h => h) (Or.inl ⟨by rfl, ?_⟩) (by assumption) ?_
      rotate_left
      focus (intro w hSw; (try dsimp only at hSw); go_simp <;> with_reducible rfl)
      try simp only [Act.put, List.setIfInBounds_toArray, List.set_cons_zero, List.set_cons_succ]
      refine wpAnyH_ready (rs := [1]) (by kernel_rfl) (by simp) ?_
      refine AllReadyH.cons (o := { dst := some 75, op := Op.call { callee := Callee.value (Operand.func 26), args := #[Operand.tmp 74, Operand.const (Value.int IntKind.u32 0)], argTypes := #[26, 33] }, type := 3, pos := "outright.go:172", after := #[{ on := 0, ground := Ground.data }], guard := none }) rfl (fun K hK => ?_) AllReadyH.nil
      go_simp
      refine (dwants_at hHeld.1 0 (by omega)).mono ?_
      rintro e z1 ⟨rfl, hkz⟩
      rw [wantN_off]
      go_wp2_with fail
      refine shut_grow _ hK (fun _ h => h) ⟨hHeld.1.keep0 hkz, hHeld.2.trans hkz⟩ (fun hHeld1 => ?_)
      clear hK K hHeld hkz
      refine wpAnyH_take (i := 2) (oi := { dst := some 76, op := Op.binOp BinOp.eql 3 (Operand.tmp 75) (Operand.const (Value.int IntKind.i64 0)) 3, type := 4, pos := "outright.go:172", after := #[{ on := 1, ground := Ground.data }], guard := none }) (v := ?_) rfl (by kernel_rfl) (by kernel_rfl) (by kernel_rfl) (fun _ _ _ h => h) (Or.inl ⟨by rfl, ?_⟩) (by assumption) ?_
      rotate_left
      focus (intro w hSw; (try dsimp only at hSw); go_simp <;> with_reducible rfl)
      try simp only [Act.put, List.setIfInBounds_toArray, List.set_cons_zero, List.set_cons_succ]
      refine wpAnyH_take (i := 3) (oi := { dst := some 77, op := Op.move (Operand.tmp 76), type := 4, pos := "outright.go:172", after := #[{ on := 2, ground := Ground.data }, { on := 1, ground := Ground.chain }], guard := none }) (v := ?_) rfl (by kernel_rfl) (by kernel_rfl) (by kernel_rfl) (fun _ _ _ h => h) (Or.inl ⟨by rfl, ?_⟩) (by assumption) ?_
      rotate_left
      focus (intro w hSw; (try dsimp only at hSw); go_simp <;> with_reducible rfl)
      try simp only [Act.put, List.setIfInBounds_toArray, List.set_cons_zero, List.set_cons_succ]
      refine wpAnyH_take (i := 4) (oi := { dst := some 78, op := Op.move (Operand.tmp 8), type := 3, pos := "outright.go:172", after := #[{ on := 3, ground := Ground.guard }], guard := some (3, true) }) (v := ?_) rfl (by kernel_rfl) (by kernel_rfl) (by kernel_rfl) (fun _ _ _ h => h) (Or.inl ⟨by rfl, ?_⟩) (by assumption) ?_
      rotate_left
      focus (intro w hSw; (try dsimp only at hSw); go_simp <;> with_reducible rfl)
      try simp only [Act.put, List.setIfInBounds_toArray, List.set_cons_zero, List.set_cons_succ]
      refine wpAnyH_take (i := 5) (oi := { dst := some 79, op := Op.binOp BinOp.eql 3 (Operand.tmp 78) (Operand.const (Value.int IntKind.i64 0)) 3, type := 4, pos := "outright.go:172", after := #[{ on := 4, ground := Ground.data }, { on := 3, ground := Ground.guard }], guard := some (3, true) }) (v := ?_) rfl (by kernel_rfl) (by kernel_rfl) (by kernel_rfl) (fun _ _ _ h => h) (Or.inl ⟨by rfl, ?_⟩) (by assumption) ?_
      rotate_left
      focus (intro w hSw; (try dsimp only at hSw); go_simp <;> with_reducible rfl)
      try simp only [Act.put, List.setIfInBounds_toArray, List.set_cons_zero, List.set_cons_succ]
      refine wpAnyH_take (i := 6) (oi := { dst := some 80, op := Op.move (Operand.tmp 79), type := 4, pos := "outright.go:172", after := #[{ on := 5, ground := Ground.data }, { on := 3, ground := Ground.chain }, { on := 3, ground := Ground.guard }], guard := some (3, true) }) (v := ?_) rfl (by kernel_rfl) (by kernel_rfl) (by kernel_rfl) (fun _ _ _ h => h) (Or.inl ⟨by rfl, ?_⟩) (by assumption) ?_
      rotate_left
      focus (intro w hSw; (try dsimp only at hSw); go_simp <;> with_reducible rfl)
      try simp only [Act.put, List.setIfInBounds_toArray, List.set_cons_zero, List.set_cons_succ]
      refine wpAnyH_take (i := 7) (oi := { dst := some 81, op := Op.move (Operand.tmp 5), type := 26, pos := "outright.go:172", after := #[{ on := 6, ground := Ground.guard }], guard := some (6, false) }) (v := undef) rfl (by kernel_rfl) (by kernel_rfl) (by kernel_rfl) (fun _ _ _ h => h) (Or.inr ⟨by rfl, rfl⟩) (by assumption) ?_
      try simp only [Act.put, List.setIfInBounds_toArray, List.set_cons_zero, List.set_cons_succ]
      refine wpAnyH_take (i := 8) (oi := { dst := some 82, op := Op.call { callee := Callee.value (Operand.func 13), args := #[Operand.tmp 81, Operand.const (Value.int IntKind.i64 6)], argTypes := #[26, 3] }, type := 33, pos := "outright.go:172", after := #[{ on := 7, ground := Ground.data }, { on := 6, ground := Ground.chain }, { on := 6, ground := Ground.guard }], guard := some (6, false) }) (v := undef) rfl (by kernel_rfl) (by kernel_rfl) (by kernel_rfl) (fun _ _ _ h => h) (Or.inr ⟨by rfl, rfl⟩) (by assumption) ?_
      try simp only [Act.put, List.setIfInBounds_toArray, List.set_cons_zero, List.set_cons_succ]
      refine wpAnyH_take (i := 9) (oi := { dst := some 83, op := Op.move (Operand.tmp 7), type := 33, pos := "outright.go:172", after := #[{ on := 6, ground := Ground.guard }], guard := some (6, false) }) (v := undef) rfl (by kernel_rfl) (by kernel_rfl) (by kernel_rfl) (fun _ _ _ h => h) (Or.inr ⟨by rfl, rfl⟩) (by assumption) ?_
      try simp only [Act.put, List.setIfInBounds_toArray, List.set_cons_zero, List.set_cons_succ]
      refine wpAnyH_take (i := 10) (oi := { dst := some 84, op := Op.move (Operand.tmp 8), type := 3, pos := "outright.go:172", after := #[{ on := 6, ground := Ground.guard }], guard := some (6, false) }) (v := undef) rfl (by kernel_rfl) (by kernel_rfl) (by kernel_rfl) (fun _ _ _ h => h) (Or.inr ⟨by rfl, rfl⟩) (by assumption) ?_
      try simp only [Act.put, List.setIfInBounds_toArray, List.set_cons_zero, List.set_cons_succ]
      refine wpAnyH_take (i := 11) (oi := { dst := some 85, op := Op.binOp BinOp.sub 3 (Operand.tmp 84) (Operand.const (Value.int IntKind.i64 9)) 3, type := 3, pos := "outright.go:172", after := #[{ on := 10, ground := Ground.data }, { on := 6, ground := Ground.guard }], guard := some (6, false) }) (v := undef) rfl (by kernel_rfl) (by kernel_rfl) (by kernel_rfl) (fun _ _ _ h => h) (Or.inr ⟨by rfl, rfl⟩) (by assumption) ?_
      try simp only [Act.put, List.setIfInBounds_toArray, List.set_cons_zero, List.set_cons_succ]
      refine wpAnyH_take (i := 12) (oi := { dst := some 86, op := Op.binOp BinOp.shl 33 (Operand.const (Value.int IntKind.u32 1)) (Operand.tmp 85) 3, type := 33, pos := "outright.go:172", after := #[{ on := 11, ground := Ground.data }, { on := 6, ground := Ground.guard }], guard := some (6, false) }) (v := undef) rfl (by kernel_rfl) (by kernel_rfl) (by kernel_rfl) (fun _ _ _ h => h) (Or.inr ⟨by rfl, rfl⟩) (by assumption) ?_
      try simp only [Act.put, List.setIfInBounds_toArray, List.set_cons_zero, List.set_cons_succ]
      refine wpAnyH_take (i := 13) (oi := { dst := some 87, op := Op.binOp BinOp.andNot 33 (Operand.tmp 83) (Operand.tmp 86) 33, type := 33, pos := "outright.go:172", after := #[{ on := 9, ground := Ground.data }, { on := 12, ground := Ground.data }, { on := 6, ground := Ground.guard }], guard := some (6, false) }) (v := undef) rfl (by kernel_rfl) (by kernel_rfl) (by kernel_rfl) (fun _ _ _ h => h) (Or.inr ⟨by rfl, rfl⟩) (by assumption) ?_
      try simp only [Act.put, List.setIfInBounds_toArray, List.set_cons_zero, List.set_cons_succ]
      refine wpAnyH_take (i := 14) (oi := { dst := some 88, op := Op.binOp BinOp.eql 33 (Operand.tmp 82) (Operand.tmp 87) 33, type := 4, pos := "outright.go:172", after := #[{ on := 8, ground := Ground.data }, { on := 13, ground := Ground.data }, { on := 6, ground := Ground.guard }], guard := some (6, false) }) (v := undef) rfl (by kernel_rfl) (by kernel_rfl) (by kernel_rfl) (fun _ _ _ h => h) (Or.inr ⟨by rfl, rfl⟩) (by assumption) ?_
      try simp only [Act.put, List.setIfInBounds_toArray, List.set_cons_zero, List.set_cons_succ]
      refine wpAnyH_take (i := 15) (oi := { dst := some 89, op := Op.pick (Operand.tmp 80) (Operand.const (Value.bool true)) (Operand.tmp 88), type := 4, pos := "outright.go:172", after := #[{ on := 6, ground := Ground.data }, { on := 14, ground := Ground.data }, { on := 3, ground := Ground.guard }], guard := some (3, true) }) (v := ?_) rfl (by kernel_rfl) (by kernel_rfl) (by kernel_rfl) (fun _ _ _ h => h) (Or.inl ⟨by rfl, ?_⟩) (by assumption) ?_
      rotate_left
      focus (intro w hSw; (try dsimp only at hSw); go_simp <;> with_reducible rfl)
      try simp only [Act.put, List.setIfInBounds_toArray, List.set_cons_zero, List.set_cons_succ]
      refine wpAnyH_take (i := 16) (oi := { dst := some 90, op := Op.pick (Operand.tmp 77) (Operand.tmp 89) (Operand.const (Value.bool false)), type := 4, pos := "outright.go:172", after := #[{ on := 3, ground := Ground.data }, { on := 15, ground := Ground.data }], guard := none }) (v := ?_) rfl (by kernel_rfl) (by kernel_rfl) (by kernel_rfl) (fun _ _ _ h => h) (Or.inl ⟨by rfl, ?_⟩) (by assumption) ?_
      rotate_left
      focus (intro w hSw; (try dsimp only at hSw); go_simp <;> with_reducible rfl)
      try simp only [Act.put, List.setIfInBounds_toArray, List.set_cons_zero, List.set_cons_succ]
      refine wpAnyH_take (i := 17) (oi := { dst := some 91, op := Op.move (Operand.tmp 90), type := 4, pos := "outright.go:172", after := #[{ on := 16, ground := Ground.data }, { on := 8, ground := Ground.chain }], guard := none }) (v := ?_) rfl (by kernel_rfl) (by kernel_rfl) (by kernel_rfl) (fun _ _ _ h => h) (Or.inl ⟨by rfl, ?_⟩) (by assumption) ?_
      rotate_left
      focus (intro w hSw; (try dsimp only at hSw); go_simp <;> with_reducible rfl)
      try simp only [Act.put, List.setIfInBounds_toArray, List.set_cons_zero, List.set_cons_succ]
      refine wpAnyH_ready (rs := [18]) (by kernel_rfl) (by simp) ?_
      refine AllReadyH.cons (o := { dst := some 92, op := Op.call { callee := Callee.value (Operand.func 15), args := #[], argTypes := #[] }, type := 4, pos := "outright.go:172", after := #[{ on := 17, ground := Ground.chain }, { on := 17, ground := Ground.guard }], guard := some (17, true) }) rfl (fun K hK => ?_) AllReadyH.nil
      go_simp
      refine (works_at _).mono ?_
      rintro e z3 ⟨rfl, hkz⟩
      go_wp2_with fail
      refine shut_grow _ hK (fun _ h => h) ⟨hHeld1.1.keep0 hkz, hHeld1.2.trans hkz⟩ (fun hHeld => ?_)
      clear hK K hkz hHeld1
      refine wpAnyH_take (i := 19) (oi := { dst := some 93, op := Op.pick (Operand.tmp 91) (Operand.tmp 92) (Operand.const (Value.bool false)), type := 4, pos := "outright.go:172", after := #[{ on := 17, ground := Ground.data }, { on := 18, ground := Ground.data }], guard := none }) (v := ?_) rfl (by kernel_rfl) (by kernel_rfl) (by kernel_rfl) (fun _ _ _ h => h) (Or.inl ⟨by rfl, ?_⟩) (by assumption) ?_
      rotate_left
      focus (intro w hSw; (try dsimp only at hSw); go_simp <;> with_reducible rfl)
      try simp only [Act.put, List.setIfInBounds_toArray, List.set_cons_zero, List.set_cons_succ]
      refine wpAnyH_take (i := 20) (oi := { dst := some 4, op := Op.assign (Operand.tmp 93), type := 4, pos := "outright.go:172", after := #[{ on := 19, ground := Ground.data }, { on := 18, ground := Ground.chain }, { on := 0, ground := Ground.phase }, { on := 1, ground := Ground.phase }, { on := 2, ground := Ground.phase }, { on := 3, ground := Ground.phase }, { on := 4, ground := Ground.phase }, { on := 5, ground := Ground.phase }, { on := 6, ground := Ground.phase }, { on := 7, ground := Ground.phase }, { on := 8, ground := Ground.phase }, { on := 9, ground := Ground.phase }, { on := 10, ground := Ground.phase }, { on := 11, ground := Ground.phase }, { on := 12, ground := Ground.phase }, { on := 13, ground := Ground.phase }, { on := 14, ground := Ground.phase }, { on := 15, ground := Ground.phase }, { on := 16, ground := Ground.phase }, { on := 17, ground := Ground.phase }, { on := 18, ground := Ground.phase }, { on := 19, ground := Ground.phase }], guard := none }) (v := ?_) rfl (by kernel_rfl) (by kernel_rfl) (by kernel_rfl) (fun _ _ _ h => h) (Or.inl ⟨by rfl, ?_⟩) (by assumption) ?_
      rotate_left
      focus (intro w hSw; (try dsimp only at hSw); go_simp <;> with_reducible rfl)
      try simp only [Act.put, List.setIfInBounds_toArray, List.set_cons_zero, List.set_cons_succ]
      refine wpAnyH_done (by kernel_rfl) ?_ _
      have HW := Lib.hid hHeld.2
      clear hHeld
      go_wp2_with fail
      go_ret
      exact ⟨rfl, masked_end HK1.out HK2.out HK3.out hk4 HK5.out HW.out⟩
    · rw [show wantN 2 1 = 9 from rfl]
      go_wp2_with (first
        | (go_at_call 13; refine (din_at HD4.out _).mono ?_; rintro e w5 ⟨rfl, rfl⟩; first | rw [HI6.out] | rw [HI5.out])
        | (go_at_call 27; refine (dtaken_at HD4.out _).mono ?_; rintro e w5 ⟨⟨u, rfl⟩, F5, hd5, hk5, hf5⟩; have HD5 := Lib.hid hd5; have HK5 := Lib.hid (And.intro hk5 hf5); clear hd5 hk5 hf5))
      obtain ⟨s5, hs5⟩ : ∃ s5, s5 = takenS s3 (9) := ⟨_, rfl⟩
      have hi6' : inS s5 6 = ((s1.bits &&& 6 : Nat) : Int) := by rw [hs5, HS3.out]; rfl
      have HI6' := Lib.hid hi6'
      rw [← hs5] at HD5
      clear hs5 hi6' HI6 HI5 HD4 HD3
      refine wp_region_held_drew (S := fun z => DvAt z b F5 s5 ∧ Keep [] w5 z) (by kernel_rfl) ⟨HD5.out.keep0 (Keep.refl _ _).drew, (Keep.refl _ _).drew⟩ (fun hHeld => ?_)
      generalize World.drew w5 = z0 at hHeld ⊢
      skip
      refine wpAnyH_take (i := 0) (oi := { dst := some 74, op := Op.move (Operand.tmp 5), type := 26, pos := "outright.go:172", after := #[], guard := none }) (v := ?_) rfl (by kernel_rfl) (by kernel_rfl) (by kernel_rfl) (fun _ _ _ h => h) (Or.inl ⟨by rfl, ?_⟩) (by assumption) ?_
      rotate_left
      focus (intro w hSw; (try dsimp only at hSw); go_simp <;> with_reducible rfl)
      try simp only [Act.put, List.setIfInBounds_toArray, List.set_cons_zero, List.set_cons_succ]
      refine wpAnyH_ready (rs := [1]) (by kernel_rfl) (by simp) ?_
      refine AllReadyH.cons (o := { dst := some 75, op := Op.call { callee := Callee.value (Operand.func 26), args := #[Operand.tmp 74, Operand.const (Value.int IntKind.u32 0)], argTypes := #[26, 33] }, type := 3, pos := "outright.go:172", after := #[{ on := 0, ground := Ground.data }], guard := none }) rfl (fun K hK => ?_) AllReadyH.nil
      go_simp
      refine (dwants_at hHeld.1 0 (by omega)).mono ?_
      rintro e z1 ⟨rfl, hkz⟩
      rw [wantN_off]
      go_wp2_with fail
      refine shut_grow _ hK (fun _ h => h) ⟨hHeld.1.keep0 hkz, hHeld.2.trans hkz⟩ (fun hHeld1 => ?_)
      clear hK K hHeld hkz
      refine wpAnyH_take (i := 2) (oi := { dst := some 76, op := Op.binOp BinOp.eql 3 (Operand.tmp 75) (Operand.const (Value.int IntKind.i64 0)) 3, type := 4, pos := "outright.go:172", after := #[{ on := 1, ground := Ground.data }], guard := none }) (v := ?_) rfl (by kernel_rfl) (by kernel_rfl) (by kernel_rfl) (fun _ _ _ h => h) (Or.inl ⟨by rfl, ?_⟩) (by assumption) ?_
      rotate_left
      focus (intro w hSw; (try dsimp only at hSw); go_simp <;> with_reducible rfl)
      try simp only [Act.put, List.setIfInBounds_toArray, List.set_cons_zero, List.set_cons_succ]
      refine wpAnyH_take (i := 3) (oi := { dst := some 77, op := Op.move (Operand.tmp 76), type := 4, pos := "outright.go:172", after := #[{ on := 2, ground := Ground.data }, { on := 1, ground := Ground.chain }], guard := none }) (v := ?_) rfl (by kernel_rfl) (by kernel_rfl) (by kernel_rfl) (fun _ _ _ h => h) (Or.inl ⟨by rfl, ?_⟩) (by assumption) ?_
      rotate_left
      focus (intro w hSw; (try dsimp only at hSw); go_simp <;> with_reducible rfl)
      try simp only [Act.put, List.setIfInBounds_toArray, List.set_cons_zero, List.set_cons_succ]
      refine wpAnyH_take (i := 4) (oi := { dst := some 78, op := Op.move (Operand.tmp 8), type := 3, pos := "outright.go:172", after := #[{ on := 3, ground := Ground.guard }], guard := some (3, true) }) (v := ?_) rfl (by kernel_rfl) (by kernel_rfl) (by kernel_rfl) (fun _ _ _ h => h) (Or.inl ⟨by rfl, ?_⟩) (by assumption) ?_
      rotate_left
      focus (intro w hSw; (try dsimp only at hSw); go_simp <;> with_reducible rfl)
      try simp only [Act.put, List.setIfInBounds_toArray, List.set_cons_zero, List.set_cons_succ]
      refine wpAnyH_take (i := 5) (oi := { dst := some 79, op := Op.binOp BinOp.eql 3 (Operand.tmp 78) (Operand.const (Value.int IntKind.i64 0)) 3, type := 4, pos := "outright.go:172", after := #[{ on := 4, ground := Ground.data }, { on := 3, ground := Ground.guard }], guard := some (3, true) }) (v := ?_) rfl (by kernel_rfl) (by kernel_rfl) (by kernel_rfl) (fun _ _ _ h => h) (Or.inl ⟨by rfl, ?_⟩) (by assumption) ?_
      rotate_left
      focus (intro w hSw; (try dsimp only at hSw); go_simp <;> with_reducible rfl)
      try simp only [Act.put, List.setIfInBounds_toArray, List.set_cons_zero, List.set_cons_succ]
      refine wpAnyH_take (i := 6) (oi := { dst := some 80, op := Op.move (Operand.tmp 79), type := 4, pos := "outright.go:172", after := #[{ on := 5, ground := Ground.data }, { on := 3, ground := Ground.chain }, { on := 3, ground := Ground.guard }], guard := some (3, true) }) (v := ?_) rfl (by kernel_rfl) (by kernel_rfl) (by kernel_rfl) (fun _ _ _ h => h) (Or.inl ⟨by rfl, ?_⟩) (by assumption) ?_
      rotate_left
      focus (intro w hSw; (try dsimp only at hSw); go_simp <;> with_reducible rfl)
      try simp only [Act.put, List.setIfInBounds_toArray, List.set_cons_zero, List.set_cons_succ]
      refine wpAnyH_take (i := 7) (oi := { dst := some 81, op := Op.move (Operand.tmp 5), type := 26, pos := "outright.go:172", after := #[{ on := 6, ground := Ground.guard }], guard := some (6, false) }) (v := ?_) rfl (by kernel_rfl) (by kernel_rfl) (by kernel_rfl) (fun _ _ _ h => h) (Or.inl ⟨by rfl, ?_⟩) (by assumption) ?_
      rotate_left
      focus (intro w hSw; (try dsimp only at hSw); go_simp <;> with_reducible rfl)
      try simp only [Act.put, List.setIfInBounds_toArray, List.set_cons_zero, List.set_cons_succ]
      refine wpAnyH_take (i := 9) (oi := { dst := some 83, op := Op.move (Operand.tmp 7), type := 33, pos := "outright.go:172", after := #[{ on := 6, ground := Ground.guard }], guard := some (6, false) }) (v := ?_) rfl (by kernel_rfl) (by kernel_rfl) (by kernel_rfl) (fun _ _ _ h => h) (Or.inl ⟨by rfl, ?_⟩) (by assumption) ?_
      rotate_left
      focus (intro w hSw; (try dsimp only at hSw); go_simp <;> with_reducible rfl)
      try simp only [Act.put, List.setIfInBounds_toArray, List.set_cons_zero, List.set_cons_succ]
      refine wpAnyH_take (i := 10) (oi := { dst := some 84, op := Op.move (Operand.tmp 8), type := 3, pos := "outright.go:172", after := #[{ on := 6, ground := Ground.guard }], guard := some (6, false) }) (v := ?_) rfl (by kernel_rfl) (by kernel_rfl) (by kernel_rfl) (fun _ _ _ h => h) (Or.inl ⟨by rfl, ?_⟩) (by assumption) ?_
      rotate_left
      focus (intro w hSw; (try dsimp only at hSw); go_simp <;> with_reducible rfl)
      try simp only [Act.put, List.setIfInBounds_toArray, List.set_cons_zero, List.set_cons_succ]
      refine wpAnyH_take (i := 11) (oi := { dst := some 85, op := Op.binOp BinOp.sub 3 (Operand.tmp 84) (Operand.const (Value.int IntKind.i64 9)) 3, type := 3, pos := "outright.go:172", after := #[{ on := 10, ground := Ground.data }, { on := 6, ground := Ground.guard }], guard := some (6, false) }) (v := ?_) rfl (by kernel_rfl) (by kernel_rfl) (by kernel_rfl) (fun _ _ _ h => h) (Or.inl ⟨by rfl, ?_⟩) (by assumption) ?_
      rotate_left
      focus (intro w hSw; (try dsimp only at hSw); go_simp <;> with_reducible rfl)
      try simp only [Act.put, List.setIfInBounds_toArray, List.set_cons_zero, List.set_cons_succ]
      refine wpAnyH_take (i := 12) (oi := { dst := some 86, op := Op.binOp BinOp.shl 33 (Operand.const (Value.int IntKind.u32 1)) (Operand.tmp 85) 3, type := 33, pos := "outright.go:172", after := #[{ on := 11, ground := Ground.data }, { on := 6, ground := Ground.guard }], guard := some (6, false) }) (v := ?_) rfl (by kernel_rfl) (by kernel_rfl) (by kernel_rfl) (fun _ _ _ h => h) (Or.inl ⟨by rfl, ?_⟩) (by assumption) ?_
      rotate_left
      focus (intro w hSw; (try dsimp only at hSw); go_simp <;> with_reducible rfl)
      try simp only [Act.put, List.setIfInBounds_toArray, List.set_cons_zero, List.set_cons_succ]
      refine wpAnyH_take (i := 13) (oi := { dst := some 87, op := Op.binOp BinOp.andNot 33 (Operand.tmp 83) (Operand.tmp 86) 33, type := 33, pos := "outright.go:172", after := #[{ on := 9, ground := Ground.data }, { on := 12, ground := Ground.data }, { on := 6, ground := Ground.guard }], guard := some (6, false) }) (v := ?_) rfl (by kernel_rfl) (by kernel_rfl) (by kernel_rfl) (fun _ _ _ h => h) (Or.inl ⟨by rfl, ?_⟩) (by assumption) ?_
      rotate_left
      focus (intro w hSw; (try dsimp only at hSw); go_simp <;> with_reducible rfl)
      try simp only [Act.put, List.setIfInBounds_toArray, List.set_cons_zero, List.set_cons_succ]
      refine wpAnyH_ready (rs := [8]) (by kernel_rfl) (by simp) ?_
      refine AllReadyH.cons (o := { dst := some 82, op := Op.call { callee := Callee.value (Operand.func 13), args := #[Operand.tmp 81, Operand.const (Value.int IntKind.i64 6)], argTypes := #[26, 3] }, type := 33, pos := "outright.go:172", after := #[{ on := 7, ground := Ground.data }, { on := 6, ground := Ground.chain }, { on := 6, ground := Ground.guard }], guard := some (6, false) }) rfl (fun K hK => ?_) AllReadyH.nil
      go_simp
      refine (din_at hHeld1.1 _).mono ?_
      rintro e z2 ⟨rfl, rfl⟩
      rw [HI6'.out]
      go_wp2_with fail
      refine shut_grow _ hK (fun _ h => h) hHeld1 (fun hHeld1 => ?_)
      clear hK K
      refine wpAnyH_take (i := 14) (oi := { dst := some 88, op := Op.binOp BinOp.eql 33 (Operand.tmp 82) (Operand.tmp 87) 33, type := 4, pos := "outright.go:172", after := #[{ on := 8, ground := Ground.data }, { on := 13, ground := Ground.data }, { on := 6, ground := Ground.guard }], guard := some (6, false) }) (v := ?_) rfl (by kernel_rfl) (by kernel_rfl) (by kernel_rfl) (fun _ _ _ h => h) (Or.inl ⟨by rfl, ?_⟩) (by assumption) ?_
      rotate_left
      focus (intro w hSw; (try dsimp only at hSw); go_simp <;> with_reducible rfl)
      try simp only [Act.put, List.setIfInBounds_toArray, List.set_cons_zero, List.set_cons_succ]
      refine wpAnyH_take (i := 15) (oi := { dst := some 89, op := Op.pick (Operand.tmp 80) (Operand.const (Value.bool true)) (Operand.tmp 88), type := 4, pos := "outright.go:172", after := #[{ on := 6, ground := Ground.data }, { on := 14, ground := Ground.data }, { on := 3, ground := Ground.guard }], guard := some (3, true) }) (v := ?_) rfl (by kernel_rfl) (by kernel_rfl) (by kernel_rfl) (fun _ _ _ h => h) (Or.inl ⟨by rfl, ?_⟩) (by assumption) ?_
      rotate_left
      focus (intro w hSw; (try dsimp only at hSw); go_simp <;> with_reducible rfl)
      try simp only [Act.put, List.setIfInBounds_toArray, List.set_cons_zero, List.set_cons_succ]
      refine wpAnyH_take (i := 16) (oi := { dst := some 90, op := Op.pick (Operand.tmp 77) (Operand.tmp 89) (Operand.const (Value.bool false)), type := 4, pos := "outright.go:172", after := #[{ on := 3, ground := Ground.data }, { on := 15, ground := Ground.data }], guard := none }) (v := ?_) rfl (by kernel_rfl) (by kernel_rfl) (by kernel_rfl) (fun _ _ _ h => h) (Or.inl ⟨by rfl, ?_⟩) (by assumption) ?_
      rotate_left
      focus (intro w hSw; (try dsimp only at hSw); go_simp <;> with_reducible rfl)
      try simp only [Act.put, List.setIfInBounds_toArray, List.set_cons_zero, List.set_cons_succ]
      refine wpAnyH_take (i := 17) (oi := { dst := some 91, op := Op.move (Operand.tmp 90), type := 4, pos := "outright.go:172", after := #[{ on := 16, ground := Ground.data }, { on := 8, ground := Ground.chain }], guard := none }) (v := ?_) rfl (by kernel_rfl) (by kernel_rfl) (by kernel_rfl) (fun _ _ _ h => h) (Or.inl ⟨by rfl, ?_⟩) (by assumption) ?_
      rotate_left
      focus (intro w hSw; (try dsimp only at hSw); go_simp <;> with_reducible rfl)
      try simp only [Act.put, List.setIfInBounds_toArray, List.set_cons_zero, List.set_cons_succ]
      refine wpAnyH_ready (rs := [18]) (by kernel_rfl) (by simp) ?_
      refine AllReadyH.cons (o := { dst := some 92, op := Op.call { callee := Callee.value (Operand.func 15), args := #[], argTypes := #[] }, type := 4, pos := "outright.go:172", after := #[{ on := 17, ground := Ground.chain }, { on := 17, ground := Ground.guard }], guard := some (17, true) }) rfl (fun K hK => ?_) AllReadyH.nil
      go_simp
      refine (works_at _).mono ?_
      rintro e z3 ⟨rfl, hkz⟩
      go_wp2_with fail
      refine shut_grow _ hK (fun _ h => h) ⟨hHeld1.1.keep0 hkz, hHeld1.2.trans hkz⟩ (fun hHeld => ?_)
      clear hK K hkz hHeld1
      refine wpAnyH_take (i := 19) (oi := { dst := some 93, op := Op.pick (Operand.tmp 91) (Operand.tmp 92) (Operand.const (Value.bool false)), type := 4, pos := "outright.go:172", after := #[{ on := 17, ground := Ground.data }, { on := 18, ground := Ground.data }], guard := none }) (v := ?_) rfl (by kernel_rfl) (by kernel_rfl) (by kernel_rfl) (fun _ _ _ h => h) (Or.inl ⟨by rfl, ?_⟩) (by assumption) ?_
      rotate_left
      focus (intro w hSw; (try dsimp only at hSw); go_simp <;> with_reducible rfl)
      try simp only [Act.put, List.setIfInBounds_toArray, List.set_cons_zero, List.set_cons_succ]
      refine wpAnyH_take (i := 20) (oi := { dst := some 4, op := Op.assign (Operand.tmp 93), type := 4, pos := "outright.go:172", after := #[{ on := 19, ground := Ground.data }, { on := 18, ground := Ground.chain }, { on := 0, ground := Ground.phase }, { on := 1, ground := Ground.phase }, { on := 2, ground := Ground.phase }, { on := 3, ground := Ground.phase }, { on := 4, ground := Ground.phase }, { on := 5, ground := Ground.phase }, { on := 6, ground := Ground.phase }, { on := 7, ground := Ground.phase }, { on := 8, ground := Ground.phase }, { on := 9, ground := Ground.phase }, { on := 10, ground := Ground.phase }, { on := 11, ground := Ground.phase }, { on := 12, ground := Ground.phase }, { on := 13, ground := Ground.phase }, { on := 14, ground := Ground.phase }, { on := 15, ground := Ground.phase }, { on := 16, ground := Ground.phase }, { on := 17, ground := Ground.phase }, { on := 18, ground := Ground.phase }, { on := 19, ground := Ground.phase }], guard := none }) (v := ?_) rfl (by kernel_rfl) (by kernel_rfl) (by kernel_rfl) (fun _ _ _ h => h) (Or.inl ⟨by rfl, ?_⟩) (by assumption) ?_
      rotate_left
      focus (intro w hSw; (try dsimp only at hSw); go_simp <;> with_reducible rfl)
      try simp only [Act.put, List.setIfInBounds_toArray, List.set_cons_zero, List.set_cons_succ]
      refine wpAnyH_done (by kernel_rfl) ?_ _
      have HW := Lib.hid hHeld.2
      clear hHeld
      go_wp2_with fail
      go_ret
      exact ⟨rfl, masked_end HK1.out HK2.out HK3.out hk4 HK5.out HW.out⟩
    · rw [show wantN 2 2 = 10 from rfl]
      go_wp2_with (first
        | (go_at_call 13; refine (din_at HD4.out _).mono ?_; rintro e w5 ⟨rfl, rfl⟩; first | rw [HI6.out] | rw [HI5.out])
        | (go_at_call 27; refine (dtaken_at HD4.out _).mono ?_; rintro e w5 ⟨⟨u, rfl⟩, F5, hd5, hk5, hf5⟩; have HD5 := Lib.hid hd5; have HK5 := Lib.hid (And.intro hk5 hf5); clear hd5 hk5 hf5))
      obtain ⟨s5, hs5⟩ : ∃ s5, s5 = takenS s3 (10) := ⟨_, rfl⟩
      have hi6' : inS s5 6 = ((s1.bits &&& 5 : Nat) : Int) := by rw [hs5, HS3.out]; rfl
      have HI6' := Lib.hid hi6'
      rw [← hs5] at HD5
      clear hs5 hi6' HI6 HI5 HD4 HD3
      refine wp_region_held_drew (S := fun z => DvAt z b F5 s5 ∧ Keep [] w5 z) (by kernel_rfl) ⟨HD5.out.keep0 (Keep.refl _ _).drew, (Keep.refl _ _).drew⟩ (fun hHeld => ?_)
      generalize World.drew w5 = z0 at hHeld ⊢
      skip
      refine wpAnyH_take (i := 0) (oi := { dst := some 74, op := Op.move (Operand.tmp 5), type := 26, pos := "outright.go:172", after := #[], guard := none }) (v := ?_) rfl (by kernel_rfl) (by kernel_rfl) (by kernel_rfl) (fun _ _ _ h => h) (Or.inl ⟨by rfl, ?_⟩) (by assumption) ?_
      rotate_left
      focus (intro w hSw; (try dsimp only at hSw); go_simp <;> with_reducible rfl)
      try simp only [Act.put, List.setIfInBounds_toArray, List.set_cons_zero, List.set_cons_succ]
      refine wpAnyH_ready (rs := [1]) (by kernel_rfl) (by simp) ?_
      refine AllReadyH.cons (o := { dst := some 75, op := Op.call { callee := Callee.value (Operand.func 26), args := #[Operand.tmp 74, Operand.const (Value.int IntKind.u32 0)], argTypes := #[26, 33] }, type := 3, pos := "outright.go:172", after := #[{ on := 0, ground := Ground.data }], guard := none }) rfl (fun K hK => ?_) AllReadyH.nil
      go_simp
      refine (dwants_at hHeld.1 0 (by omega)).mono ?_
      rintro e z1 ⟨rfl, hkz⟩
      rw [wantN_off]
      go_wp2_with fail
      refine shut_grow _ hK (fun _ h => h) ⟨hHeld.1.keep0 hkz, hHeld.2.trans hkz⟩ (fun hHeld1 => ?_)
      clear hK K hHeld hkz
      refine wpAnyH_take (i := 2) (oi := { dst := some 76, op := Op.binOp BinOp.eql 3 (Operand.tmp 75) (Operand.const (Value.int IntKind.i64 0)) 3, type := 4, pos := "outright.go:172", after := #[{ on := 1, ground := Ground.data }], guard := none }) (v := ?_) rfl (by kernel_rfl) (by kernel_rfl) (by kernel_rfl) (fun _ _ _ h => h) (Or.inl ⟨by rfl, ?_⟩) (by assumption) ?_
      rotate_left
      focus (intro w hSw; (try dsimp only at hSw); go_simp <;> with_reducible rfl)
      try simp only [Act.put, List.setIfInBounds_toArray, List.set_cons_zero, List.set_cons_succ]
      refine wpAnyH_take (i := 3) (oi := { dst := some 77, op := Op.move (Operand.tmp 76), type := 4, pos := "outright.go:172", after := #[{ on := 2, ground := Ground.data }, { on := 1, ground := Ground.chain }], guard := none }) (v := ?_) rfl (by kernel_rfl) (by kernel_rfl) (by kernel_rfl) (fun _ _ _ h => h) (Or.inl ⟨by rfl, ?_⟩) (by assumption) ?_
      rotate_left
      focus (intro w hSw; (try dsimp only at hSw); go_simp <;> with_reducible rfl)
      try simp only [Act.put, List.setIfInBounds_toArray, List.set_cons_zero, List.set_cons_succ]
      refine wpAnyH_take (i := 4) (oi := { dst := some 78, op := Op.move (Operand.tmp 8), type := 3, pos := "outright.go:172", after := #[{ on := 3, ground := Ground.guard }], guard := some (3, true) }) (v := ?_) rfl (by kernel_rfl) (by kernel_rfl) (by kernel_rfl) (fun _ _ _ h => h) (Or.inl ⟨by rfl, ?_⟩) (by assumption) ?_
      rotate_left
      focus (intro w hSw; (try dsimp only at hSw); go_simp <;> with_reducible rfl)
      try simp only [Act.put, List.setIfInBounds_toArray, List.set_cons_zero, List.set_cons_succ]
      refine wpAnyH_take (i := 5) (oi := { dst := some 79, op := Op.binOp BinOp.eql 3 (Operand.tmp 78) (Operand.const (Value.int IntKind.i64 0)) 3, type := 4, pos := "outright.go:172", after := #[{ on := 4, ground := Ground.data }, { on := 3, ground := Ground.guard }], guard := some (3, true) }) (v := ?_) rfl (by kernel_rfl) (by kernel_rfl) (by kernel_rfl) (fun _ _ _ h => h) (Or.inl ⟨by rfl, ?_⟩) (by assumption) ?_
      rotate_left
      focus (intro w hSw; (try dsimp only at hSw); go_simp <;> with_reducible rfl)
      try simp only [Act.put, List.setIfInBounds_toArray, List.set_cons_zero, List.set_cons_succ]
      refine wpAnyH_take (i := 6) (oi := { dst := some 80, op := Op.move (Operand.tmp 79), type := 4, pos := "outright.go:172", after := #[{ on := 5, ground := Ground.data }, { on := 3, ground := Ground.chain }, { on := 3, ground := Ground.guard }], guard := some (3, true) }) (v := ?_) rfl (by kernel_rfl) (by kernel_rfl) (by kernel_rfl) (fun _ _ _ h => h) (Or.inl ⟨by rfl, ?_⟩) (by assumption) ?_
      rotate_left
      focus (intro w hSw; (try dsimp only at hSw); go_simp <;> with_reducible rfl)
      try simp only [Act.put, List.setIfInBounds_toArray, List.set_cons_zero, List.set_cons_succ]
      refine wpAnyH_take (i := 7) (oi := { dst := some 81, op := Op.move (Operand.tmp 5), type := 26, pos := "outright.go:172", after := #[{ on := 6, ground := Ground.guard }], guard := some (6, false) }) (v := ?_) rfl (by kernel_rfl) (by kernel_rfl) (by kernel_rfl) (fun _ _ _ h => h) (Or.inl ⟨by rfl, ?_⟩) (by assumption) ?_
      rotate_left
      focus (intro w hSw; (try dsimp only at hSw); go_simp <;> with_reducible rfl)
      try simp only [Act.put, List.setIfInBounds_toArray, List.set_cons_zero, List.set_cons_succ]
      refine wpAnyH_take (i := 9) (oi := { dst := some 83, op := Op.move (Operand.tmp 7), type := 33, pos := "outright.go:172", after := #[{ on := 6, ground := Ground.guard }], guard := some (6, false) }) (v := ?_) rfl (by kernel_rfl) (by kernel_rfl) (by kernel_rfl) (fun _ _ _ h => h) (Or.inl ⟨by rfl, ?_⟩) (by assumption) ?_
      rotate_left
      focus (intro w hSw; (try dsimp only at hSw); go_simp <;> with_reducible rfl)
      try simp only [Act.put, List.setIfInBounds_toArray, List.set_cons_zero, List.set_cons_succ]
      refine wpAnyH_take (i := 10) (oi := { dst := some 84, op := Op.move (Operand.tmp 8), type := 3, pos := "outright.go:172", after := #[{ on := 6, ground := Ground.guard }], guard := some (6, false) }) (v := ?_) rfl (by kernel_rfl) (by kernel_rfl) (by kernel_rfl) (fun _ _ _ h => h) (Or.inl ⟨by rfl, ?_⟩) (by assumption) ?_
      rotate_left
      focus (intro w hSw; (try dsimp only at hSw); go_simp <;> with_reducible rfl)
      try simp only [Act.put, List.setIfInBounds_toArray, List.set_cons_zero, List.set_cons_succ]
      refine wpAnyH_take (i := 11) (oi := { dst := some 85, op := Op.binOp BinOp.sub 3 (Operand.tmp 84) (Operand.const (Value.int IntKind.i64 9)) 3, type := 3, pos := "outright.go:172", after := #[{ on := 10, ground := Ground.data }, { on := 6, ground := Ground.guard }], guard := some (6, false) }) (v := ?_) rfl (by kernel_rfl) (by kernel_rfl) (by kernel_rfl) (fun _ _ _ h => h) (Or.inl ⟨by rfl, ?_⟩) (by assumption) ?_
      rotate_left
      focus (intro w hSw; (try dsimp only at hSw); go_simp <;> with_reducible rfl)
      try simp only [Act.put, List.setIfInBounds_toArray, List.set_cons_zero, List.set_cons_succ]
      refine wpAnyH_take (i := 12) (oi := { dst := some 86, op := Op.binOp BinOp.shl 33 (Operand.const (Value.int IntKind.u32 1)) (Operand.tmp 85) 3, type := 33, pos := "outright.go:172", after := #[{ on := 11, ground := Ground.data }, { on := 6, ground := Ground.guard }], guard := some (6, false) }) (v := ?_) rfl (by kernel_rfl) (by kernel_rfl) (by kernel_rfl) (fun _ _ _ h => h) (Or.inl ⟨by rfl, ?_⟩) (by assumption) ?_
      rotate_left
      focus (intro w hSw; (try dsimp only at hSw); go_simp <;> with_reducible rfl)
      try simp only [Act.put, List.setIfInBounds_toArray, List.set_cons_zero, List.set_cons_succ]
      refine wpAnyH_take (i := 13) (oi := { dst := some 87, op := Op.binOp BinOp.andNot 33 (Operand.tmp 83) (Operand.tmp 86) 33, type := 33, pos := "outright.go:172", after := #[{ on := 9, ground := Ground.data }, { on := 12, ground := Ground.data }, { on := 6, ground := Ground.guard }], guard := some (6, false) }) (v := ?_) rfl (by kernel_rfl) (by kernel_rfl) (by kernel_rfl) (fun _ _ _ h => h) (Or.inl ⟨by rfl, ?_⟩) (by assumption) ?_
      rotate_left
      focus (intro w hSw; (try dsimp only at hSw); go_simp <;> with_reducible rfl)
      try simp only [Act.put, List.setIfInBounds_toArray, List.set_cons_zero, List.set_cons_succ]
      refine wpAnyH_ready (rs := [8]) (by kernel_rfl) (by simp) ?_
      refine AllReadyH.cons (o := { dst := some 82, op := Op.call { callee := Callee.value (Operand.func 13), args := #[Operand.tmp 81, Operand.const (Value.int IntKind.i64 6)], argTypes := #[26, 3] }, type := 33, pos := "outright.go:172", after := #[{ on := 7, ground := Ground.data }, { on := 6, ground := Ground.chain }, { on := 6, ground := Ground.guard }], guard := some (6, false) }) rfl (fun K hK => ?_) AllReadyH.nil
      go_simp
      refine (din_at hHeld1.1 _).mono ?_
      rintro e z2 ⟨rfl, rfl⟩
      rw [HI6'.out]
      go_wp2_with fail
      refine shut_grow _ hK (fun _ h => h) hHeld1 (fun hHeld1 => ?_)
      clear hK K
      refine wpAnyH_take (i := 14) (oi := { dst := some 88, op := Op.binOp BinOp.eql 33 (Operand.tmp 82) (Operand.tmp 87) 33, type := 4, pos := "outright.go:172", after := #[{ on := 8, ground := Ground.data }, { on := 13, ground := Ground.data }, { on := 6, ground := Ground.guard }], guard := some (6, false) }) (v := ?_) rfl (by kernel_rfl) (by kernel_rfl) (by kernel_rfl) (fun _ _ _ h => h) (Or.inl ⟨by rfl, ?_⟩) (by assumption) ?_
      rotate_left
      focus (intro w hSw; (try dsimp only at hSw); go_simp <;> with_reducible rfl)
      try simp only [Act.put, List.setIfInBounds_toArray, List.set_cons_zero, List.set_cons_succ]
      refine wpAnyH_take (i := 15) (oi := { dst := some 89, op := Op.pick (Operand.tmp 80) (Operand.const (Value.bool true)) (Operand.tmp 88), type := 4, pos := "outright.go:172", after := #[{ on := 6, ground := Ground.data }, { on := 14, ground := Ground.data }, { on := 3, ground := Ground.guard }], guard := some (3, true) }) (v := ?_) rfl (by kernel_rfl) (by kernel_rfl) (by kernel_rfl) (fun _ _ _ h => h) (Or.inl ⟨by rfl, ?_⟩) (by assumption) ?_
      rotate_left
      focus (intro w hSw; (try dsimp only at hSw); go_simp <;> with_reducible rfl)
      try simp only [Act.put, List.setIfInBounds_toArray, List.set_cons_zero, List.set_cons_succ]
      refine wpAnyH_take (i := 16) (oi := { dst := some 90, op := Op.pick (Operand.tmp 77) (Operand.tmp 89) (Operand.const (Value.bool false)), type := 4, pos := "outright.go:172", after := #[{ on := 3, ground := Ground.data }, { on := 15, ground := Ground.data }], guard := none }) (v := ?_) rfl (by kernel_rfl) (by kernel_rfl) (by kernel_rfl) (fun _ _ _ h => h) (Or.inl ⟨by rfl, ?_⟩) (by assumption) ?_
      rotate_left
      focus (intro w hSw; (try dsimp only at hSw); go_simp <;> with_reducible rfl)
      try simp only [Act.put, List.setIfInBounds_toArray, List.set_cons_zero, List.set_cons_succ]
      refine wpAnyH_take (i := 17) (oi := { dst := some 91, op := Op.move (Operand.tmp 90), type := 4, pos := "outright.go:172", after := #[{ on := 16, ground := Ground.data }, { on := 8, ground := Ground.chain }], guard := none }) (v := ?_) rfl (by kernel_rfl) (by kernel_rfl) (by kernel_rfl) (fun _ _ _ h => h) (Or.inl ⟨by rfl, ?_⟩) (by assumption) ?_
      rotate_left
      focus (intro w hSw; (try dsimp only at hSw); go_simp <;> with_reducible rfl)
      try simp only [Act.put, List.setIfInBounds_toArray, List.set_cons_zero, List.set_cons_succ]
      refine wpAnyH_ready (rs := [18]) (by kernel_rfl) (by simp) ?_
      refine AllReadyH.cons (o := { dst := some 92, op := Op.call { callee := Callee.value (Operand.func 15), args := #[], argTypes := #[] }, type := 4, pos := "outright.go:172", after := #[{ on := 17, ground := Ground.chain }, { on := 17, ground := Ground.guard }], guard := some (17, true) }) rfl (fun K hK => ?_) AllReadyH.nil
      go_simp
      refine (works_at _).mono ?_
      rintro e z3 ⟨rfl, hkz⟩
      go_wp2_with fail
      refine shut_grow _ hK (fun _ h => h) ⟨hHeld1.1.keep0 hkz, hHeld1.2.trans hkz⟩ (fun hHeld => ?_)
      clear hK K hkz hHeld1
      refine wpAnyH_take (i := 19) (oi := { dst := some 93, op := Op.pick (Operand.tmp 91) (Operand.tmp 92) (Operand.const (Value.bool false)), type := 4, pos := "outright.go:172", after := #[{ on := 17, ground := Ground.data }, { on := 18, ground := Ground.data }], guard := none }) (v := ?_) rfl (by kernel_rfl) (by kernel_rfl) (by kernel_rfl) (fun _ _ _ h => h) (Or.inl ⟨by rfl, ?_⟩) (by assumption) ?_
      rotate_left
      focus (intro w hSw; (try dsimp only at hSw); go_simp <;> with_reducible rfl)
      try simp only [Act.put, List.setIfInBounds_toArray, List.set_cons_zero, List.set_cons_succ]
      refine wpAnyH_take (i := 20) (oi := { dst := some 4, op := Op.assign (Operand.tmp 93), type := 4, pos := "outright.go:172", after := #[{ on := 19, ground := Ground.data }, { on := 18, ground := Ground.chain }, { on := 0, ground := Ground.phase }, { on := 1, ground := Ground.phase }, { on := 2, ground := Ground.phase }, { on := 3, ground := Ground.phase }, { on := 4, ground := Ground.phase }, { on := 5, ground := Ground.phase }, { on := 6, ground := Ground.phase }, { on := 7, ground := Ground.phase }, { on := 8, ground := Ground.phase }, { on := 9, ground := Ground.phase }, { on := 10, ground := Ground.phase }, { on := 11, ground := Ground.phase }, { on := 12, ground := Ground.phase }, { on := 13, ground := Ground.phase }, { on := 14, ground := Ground.phase }, { on := 15, ground := Ground.phase }, { on := 16, ground := Ground.phase }, { on := 17, ground := Ground.phase }, { on := 18, ground := Ground.phase }, { on := 19, ground := Ground.phase }], guard := none }) (v := ?_) rfl (by kernel_rfl) (by kernel_rfl) (by kernel_rfl) (fun _ _ _ h => h) (Or.inl ⟨by rfl, ?_⟩) (by assumption) ?_
      rotate_left
      focus (intro w hSw; (try dsimp only at hSw); go_simp <;> with_reducible rfl)
      try simp only [Act.put, List.setIfInBounds_toArray, List.set_cons_zero, List.set_cons_succ]
      refine wpAnyH_done (by kernel_rfl) ?_ _
      have HW := Lib.hid hHeld.2
      clear hHeld
      go_wp2_with fail
      go_ret
      exact ⟨rfl, masked_end HK1.out HK2.out HK3.out hk4 HK5.out HW.out⟩
    · rw [show wantN 2 3 = 9 from rfl]
      go_wp2_with (first
        | (go_at_call 13; refine (din_at HD4.out _).mono ?_; rintro e w5 ⟨rfl, rfl⟩; first | rw [HI6.out] | rw [HI5.out])
        | (go_at_call 27; refine (dtaken_at HD4.out _).mono ?_; rintro e w5 ⟨⟨u, rfl⟩, F5, hd5, hk5, hf5⟩; have HD5 := Lib.hid hd5; have HK5 := Lib.hid (And.intro hk5 hf5); clear hd5 hk5 hf5))
      obtain ⟨s5, hs5⟩ : ∃ s5, s5 = takenS s3 (9) := ⟨_, rfl⟩
      have hi6' : inS s5 6 = ((s1.bits &&& 6 : Nat) : Int) := by rw [hs5, HS3.out]; rfl
      have HI6' := Lib.hid hi6'
      rw [← hs5] at HD5
      clear hs5 hi6' HI6 HI5 HD4 HD3
      refine wp_region_held_drew (S := fun z => DvAt z b F5 s5 ∧ Keep [] w5 z) (by kernel_rfl) ⟨HD5.out.keep0 (Keep.refl _ _).drew, (Keep.refl _ _).drew⟩ (fun hHeld => ?_)
      generalize World.drew w5 = z0 at hHeld ⊢
      skip
      refine wpAnyH_take (i := 0) (oi := { dst := some 74, op := Op.move (Operand.tmp 5), type := 26, pos := "outright.go:172", after := #[], guard := none }) (v := ?_) rfl (by kernel_rfl) (by kernel_rfl) (by kernel_rfl) (fun _ _ _ h => h) (Or.inl ⟨by rfl, ?_⟩) (by assumption) ?_
      rotate_left
      focus (intro w hSw; (try dsimp only at hSw); go_simp <;> with_reducible rfl)
      try simp only [Act.put, List.setIfInBounds_toArray, List.set_cons_zero, List.set_cons_succ]
      refine wpAnyH_ready (rs := [1]) (by kernel_rfl) (by simp) ?_
      refine AllReadyH.cons (o := { dst := some 75, op := Op.call { callee := Callee.value (Operand.func 26), args := #[Operand.tmp 74, Operand.const (Value.int IntKind.u32 0)], argTypes := #[26, 33] }, type := 3, pos := "outright.go:172", after := #[{ on := 0, ground := Ground.data }], guard := none }) rfl (fun K hK => ?_) AllReadyH.nil
      go_simp
      refine (dwants_at hHeld.1 0 (by omega)).mono ?_
      rintro e z1 ⟨rfl, hkz⟩
      rw [wantN_off]
      go_wp2_with fail
      refine shut_grow _ hK (fun _ h => h) ⟨hHeld.1.keep0 hkz, hHeld.2.trans hkz⟩ (fun hHeld1 => ?_)
      clear hK K hHeld hkz
      refine wpAnyH_take (i := 2) (oi := { dst := some 76, op := Op.binOp BinOp.eql 3 (Operand.tmp 75) (Operand.const (Value.int IntKind.i64 0)) 3, type := 4, pos := "outright.go:172", after := #[{ on := 1, ground := Ground.data }], guard := none }) (v := ?_) rfl (by kernel_rfl) (by kernel_rfl) (by kernel_rfl) (fun _ _ _ h => h) (Or.inl ⟨by rfl, ?_⟩) (by assumption) ?_
      rotate_left
      focus (intro w hSw; (try dsimp only at hSw); go_simp <;> with_reducible rfl)
      try simp only [Act.put, List.setIfInBounds_toArray, List.set_cons_zero, List.set_cons_succ]
      refine wpAnyH_take (i := 3) (oi := { dst := some 77, op := Op.move (Operand.tmp 76), type := 4, pos := "outright.go:172", after := #[{ on := 2, ground := Ground.data }, { on := 1, ground := Ground.chain }], guard := none }) (v := ?_) rfl (by kernel_rfl) (by kernel_rfl) (by kernel_rfl) (fun _ _ _ h => h) (Or.inl ⟨by rfl, ?_⟩) (by assumption) ?_
      rotate_left
      focus (intro w hSw; (try dsimp only at hSw); go_simp <;> with_reducible rfl)
      try simp only [Act.put, List.setIfInBounds_toArray, List.set_cons_zero, List.set_cons_succ]
      refine wpAnyH_take (i := 4) (oi := { dst := some 78, op := Op.move (Operand.tmp 8), type := 3, pos := "outright.go:172", after := #[{ on := 3, ground := Ground.guard }], guard := some (3, true) }) (v := ?_) rfl (by kernel_rfl) (by kernel_rfl) (by kernel_rfl) (fun _ _ _ h => h) (Or.inl ⟨by rfl, ?_⟩) (by assumption) ?_
      rotate_left
      focus (intro w hSw; (try dsimp only at hSw); go_simp <;> with_reducible rfl)
      try simp only [Act.put, List.setIfInBounds_toArray, List.set_cons_zero, List.set_cons_succ]
      refine wpAnyH_take (i := 5) (oi := { dst := some 79, op := Op.binOp BinOp.eql 3 (Operand.tmp 78) (Operand.const (Value.int IntKind.i64 0)) 3, type := 4, pos := "outright.go:172", after := #[{ on := 4, ground := Ground.data }, { on := 3, ground := Ground.guard }], guard := some (3, true) }) (v := ?_) rfl (by kernel_rfl) (by kernel_rfl) (by kernel_rfl) (fun _ _ _ h => h) (Or.inl ⟨by rfl, ?_⟩) (by assumption) ?_
      rotate_left
      focus (intro w hSw; (try dsimp only at hSw); go_simp <;> with_reducible rfl)
      try simp only [Act.put, List.setIfInBounds_toArray, List.set_cons_zero, List.set_cons_succ]
      refine wpAnyH_take (i := 6) (oi := { dst := some 80, op := Op.move (Operand.tmp 79), type := 4, pos := "outright.go:172", after := #[{ on := 5, ground := Ground.data }, { on := 3, ground := Ground.chain }, { on := 3, ground := Ground.guard }], guard := some (3, true) }) (v := ?_) rfl (by kernel_rfl) (by kernel_rfl) (by kernel_rfl) (fun _ _ _ h => h) (Or.inl ⟨by rfl, ?_⟩) (by assumption) ?_
      rotate_left
      focus (intro w hSw; (try dsimp only at hSw); go_simp <;> with_reducible rfl)
      try simp only [Act.put, List.setIfInBounds_toArray, List.set_cons_zero, List.set_cons_succ]
      refine wpAnyH_take (i := 7) (oi := { dst := some 81, op := Op.move (Operand.tmp 5), type := 26, pos := "outright.go:172", after := #[{ on := 6, ground := Ground.guard }], guard := some (6, false) }) (v := ?_) rfl (by kernel_rfl) (by kernel_rfl) (by kernel_rfl) (fun _ _ _ h => h) (Or.inl ⟨by rfl, ?_⟩) (by assumption) ?_
      rotate_left
      focus (intro w hSw; (try dsimp only at hSw); go_simp <;> with_reducible rfl)
      try simp only [Act.put, List.setIfInBounds_toArray, List.set_cons_zero, List.set_cons_succ]
      refine wpAnyH_take (i := 9) (oi := { dst := some 83, op := Op.move (Operand.tmp 7), type := 33, pos := "outright.go:172", after := #[{ on := 6, ground := Ground.guard }], guard := some (6, false) }) (v := ?_) rfl (by kernel_rfl) (by kernel_rfl) (by kernel_rfl) (fun _ _ _ h => h) (Or.inl ⟨by rfl, ?_⟩) (by assumption) ?_
      rotate_left
      focus (intro w hSw; (try dsimp only at hSw); go_simp <;> with_reducible rfl)
      try simp only [Act.put, List.setIfInBounds_toArray, List.set_cons_zero, List.set_cons_succ]
      refine wpAnyH_take (i := 10) (oi := { dst := some 84, op := Op.move (Operand.tmp 8), type := 3, pos := "outright.go:172", after := #[{ on := 6, ground := Ground.guard }], guard := some (6, false) }) (v := ?_) rfl (by kernel_rfl) (by kernel_rfl) (by kernel_rfl) (fun _ _ _ h => h) (Or.inl ⟨by rfl, ?_⟩) (by assumption) ?_
      rotate_left
      focus (intro w hSw; (try dsimp only at hSw); go_simp <;> with_reducible rfl)
      try simp only [Act.put, List.setIfInBounds_toArray, List.set_cons_zero, List.set_cons_succ]
      refine wpAnyH_take (i := 11) (oi := { dst := some 85, op := Op.binOp BinOp.sub 3 (Operand.tmp 84) (Operand.const (Value.int IntKind.i64 9)) 3, type := 3, pos := "outright.go:172", after := #[{ on := 10, ground := Ground.data }, { on := 6, ground := Ground.guard }], guard := some (6, false) }) (v := ?_) rfl (by kernel_rfl) (by kernel_rfl) (by kernel_rfl) (fun _ _ _ h => h) (Or.inl ⟨by rfl, ?_⟩) (by assumption) ?_
      rotate_left
      focus (intro w hSw; (try dsimp only at hSw); go_simp <;> with_reducible rfl)
      try simp only [Act.put, List.setIfInBounds_toArray, List.set_cons_zero, List.set_cons_succ]
      refine wpAnyH_take (i := 12) (oi := { dst := some 86, op := Op.binOp BinOp.shl 33 (Operand.const (Value.int IntKind.u32 1)) (Operand.tmp 85) 3, type := 33, pos := "outright.go:172", after := #[{ on := 11, ground := Ground.data }, { on := 6, ground := Ground.guard }], guard := some (6, false) }) (v := ?_) rfl (by kernel_rfl) (by kernel_rfl) (by kernel_rfl) (fun _ _ _ h => h) (Or.inl ⟨by rfl, ?_⟩) (by assumption) ?_
      rotate_left
      focus (intro w hSw; (try dsimp only at hSw); go_simp <;> with_reducible rfl)
      try simp only [Act.put, List.setIfInBounds_toArray, List.set_cons_zero, List.set_cons_succ]
      refine wpAnyH_take (i := 13) (oi := { dst := some 87, op := Op.binOp BinOp.andNot 33 (Operand.tmp 83) (Operand.tmp 86) 33, type := 33, pos := "outright.go:172", after := #[{ on := 9, ground := Ground.data }, { on := 12, ground := Ground.data }, { on := 6, ground := Ground.guard }], guard := some (6, false) }) (v := ?_) rfl (by kernel_rfl) (by kernel_rfl) (by kernel_rfl) (fun _ _ _ h => h) (Or.inl ⟨by rfl, ?_⟩) (by assumption) ?_
      rotate_left
      focus (intro w hSw; (try dsimp only at hSw); go_simp <;> with_reducible rfl)
      try simp only [Act.put, List.setIfInBounds_toArray, List.set_cons_zero, List.set_cons_succ]
      refine wpAnyH_ready (rs := [8]) (by kernel_rfl) (by simp) ?_
      refine AllReadyH.cons (o := { dst := some 82, op := Op.call { callee := Callee.value (Operand.func 13), args := #[Operand.tmp 81, Operand.const (Value.int IntKind.i64 6)], argTypes := #[26, 3] }, type := 33, pos := "outright.go:172", after := #[{ on := 7, ground := Ground.data }, { on := 6, ground := Ground.chain }, { on := 6, ground := Ground.guard }], guard := some (6, false) }) rfl (fun K hK => ?_) AllReadyH.nil
      go_simp
      refine (din_at hHeld1.1 _).mono ?_
      rintro e z2 ⟨rfl, rfl⟩
      rw [HI6'.out]
      go_wp2_with fail
      refine shut_grow _ hK (fun _ h => h) hHeld1 (fun hHeld1 => ?_)
      clear hK K
      refine wpAnyH_take (i := 14) (oi := { dst := some 88, op := Op.binOp BinOp.eql 33 (Operand.tmp 82) (Operand.tmp 87) 33, type := 4, pos := "outright.go:172", after := #[{ on := 8, ground := Ground.data }, { on := 13, ground := Ground.data }, { on := 6, ground := Ground.guard }], guard := some (6, false) }) (v := ?_) rfl (by kernel_rfl) (by kernel_rfl) (by kernel_rfl) (fun _ _ _ h => h) (Or.inl ⟨by rfl, ?_⟩) (by assumption) ?_
      rotate_left
      focus (intro w hSw; (try dsimp only at hSw); go_simp <;> with_reducible rfl)
      try simp only [Act.put, List.setIfInBounds_toArray, List.set_cons_zero, List.set_cons_succ]
      refine wpAnyH_take (i := 15) (oi := { dst := some 89, op := Op.pick (Operand.tmp 80) (Operand.const (Value.bool true)) (Operand.tmp 88), type := 4, pos := "outright.go:172", after := #[{ on := 6, ground := Ground.data }, { on := 14, ground := Ground.data }, { on := 3, ground := Ground.guard }], guard := some (3, true) }) (v := ?_) rfl (by kernel_rfl) (by kernel_rfl) (by kernel_rfl) (fun _ _ _ h => h) (Or.inl ⟨by rfl, ?_⟩) (by assumption) ?_
      rotate_left
      focus (intro w hSw; (try dsimp only at hSw); go_simp <;> with_reducible rfl)
      try simp only [Act.put, List.setIfInBounds_toArray, List.set_cons_zero, List.set_cons_succ]
      refine wpAnyH_take (i := 16) (oi := { dst := some 90, op := Op.pick (Operand.tmp 77) (Operand.tmp 89) (Operand.const (Value.bool false)), type := 4, pos := "outright.go:172", after := #[{ on := 3, ground := Ground.data }, { on := 15, ground := Ground.data }], guard := none }) (v := ?_) rfl (by kernel_rfl) (by kernel_rfl) (by kernel_rfl) (fun _ _ _ h => h) (Or.inl ⟨by rfl, ?_⟩) (by assumption) ?_
      rotate_left
      focus (intro w hSw; (try dsimp only at hSw); go_simp <;> with_reducible rfl)
      try simp only [Act.put, List.setIfInBounds_toArray, List.set_cons_zero, List.set_cons_succ]
      refine wpAnyH_take (i := 17) (oi := { dst := some 91, op := Op.move (Operand.tmp 90), type := 4, pos := "outright.go:172", after := #[{ on := 16, ground := Ground.data }, { on := 8, ground := Ground.chain }], guard := none }) (v := ?_) rfl (by kernel_rfl) (by kernel_rfl) (by kernel_rfl) (fun _ _ _ h => h) (Or.inl ⟨by rfl, ?_⟩) (by assumption) ?_
      rotate_left
      focus (intro w hSw; (try dsimp only at hSw); go_simp <;> with_reducible rfl)
      try simp only [Act.put, List.setIfInBounds_toArray, List.set_cons_zero, List.set_cons_succ]
      refine wpAnyH_ready (rs := [18]) (by kernel_rfl) (by simp) ?_
      refine AllReadyH.cons (o := { dst := some 92, op := Op.call { callee := Callee.value (Operand.func 15), args := #[], argTypes := #[] }, type := 4, pos := "outright.go:172", after := #[{ on := 17, ground := Ground.chain }, { on := 17, ground := Ground.guard }], guard := some (17, true) }) rfl (fun K hK => ?_) AllReadyH.nil
      go_simp
      refine (works_at _).mono ?_
      rintro e z3 ⟨rfl, hkz⟩
      go_wp2_with fail
      refine shut_grow _ hK (fun _ h => h) ⟨hHeld1.1.keep0 hkz, hHeld1.2.trans hkz⟩ (fun hHeld => ?_)
      clear hK K hkz hHeld1
      refine wpAnyH_take (i := 19) (oi := { dst := some 93, op := Op.pick (Operand.tmp 91) (Operand.tmp 92) (Operand.const (Value.bool false)), type := 4, pos := "outright.go:172", after := #[{ on := 17, ground := Ground.data }, { on := 18, ground := Ground.data }], guard := none }) (v := ?_) rfl (by kernel_rfl) (by kernel_rfl) (by kernel_rfl) (fun _ _ _ h => h) (Or.inl ⟨by rfl, ?_⟩) (by assumption) ?_
      rotate_left
      focus (intro w hSw; (try dsimp only at hSw); go_simp <;> with_reducible rfl)
      try simp only [Act.put, List.setIfInBounds_toArray, List.set_cons_zero, List.set_cons_succ]
      refine wpAnyH_take (i := 20) (oi := { dst := some 4, op := Op.assign (Operand.tmp 93), type := 4, pos := "outright.go:172", after := #[{ on := 19, ground := Ground.data }, { on := 18, ground := Ground.chain }, { on := 0, ground := Ground.phase }, { on := 1, ground := Ground.phase }, { on := 2, ground := Ground.phase }, { on := 3, ground := Ground.phase }, { on := 4, ground := Ground.phase }, { on := 5, ground := Ground.phase }, { on := 6, ground := Ground.phase }, { on := 7, ground := Ground.phase }, { on := 8, ground := Ground.phase }, { on := 9, ground := Ground.phase }, { on := 10, ground := Ground.phase }, { on := 11, ground := Ground.phase }, { on := 12, ground := Ground.phase }, { on := 13, ground := Ground.phase }, { on := 14, ground := Ground.phase }, { on := 15, ground := Ground.phase }, { on := 16, ground := Ground.phase }, { on := 17, ground := Ground.phase }, { on := 18, ground := Ground.phase }, { on := 19, ground := Ground.phase }], guard := none }) (v := ?_) rfl (by kernel_rfl) (by kernel_rfl) (by kernel_rfl) (fun _ _ _ h => h) (Or.inl ⟨by rfl, ?_⟩) (by assumption) ?_
      rotate_left
      focus (intro w hSw; (try dsimp only at hSw); go_simp <;> with_reducible rfl)
      try simp only [Act.put, List.setIfInBounds_toArray, List.set_cons_zero, List.set_cons_succ]
      refine wpAnyH_done (by kernel_rfl) ?_ _
      have HW := Lib.hid hHeld.2
      clear hHeld
      go_wp2_with fail
      go_ret
      exact ⟨rfl, masked_end HK1.out HK2.out HK3.out hk4 HK5.out HW.out⟩
    · rw [show wantN 2 4 = 11 from rfl]
      go_wp2_with (first
        | (go_at_call 13; refine (din_at HD4.out _).mono ?_; rintro e w5 ⟨rfl, rfl⟩; first | rw [HI6.out] | rw [HI5.out])
        | (go_at_call 27; refine (dtaken_at HD4.out _).mono ?_; rintro e w5 ⟨⟨u, rfl⟩, F5, hd5, hk5, hf5⟩; have HD5 := Lib.hid hd5; have HK5 := Lib.hid (And.intro hk5 hf5); clear hd5 hk5 hf5))
      obtain ⟨s5, hs5⟩ : ∃ s5, s5 = takenS s3 (11) := ⟨_, rfl⟩
      have hi6' : inS s5 6 = ((s1.bits &&& 3 : Nat) : Int) := by rw [hs5, HS3.out]; rfl
      have HI6' := Lib.hid hi6'
      rw [← hs5] at HD5
      clear hs5 hi6' HI6 HI5 HD4 HD3
      refine wp_region_held_drew (S := fun z => DvAt z b F5 s5 ∧ Keep [] w5 z) (by kernel_rfl) ⟨HD5.out.keep0 (Keep.refl _ _).drew, (Keep.refl _ _).drew⟩ (fun hHeld => ?_)
      generalize World.drew w5 = z0 at hHeld ⊢
      skip
      refine wpAnyH_take (i := 0) (oi := { dst := some 74, op := Op.move (Operand.tmp 5), type := 26, pos := "outright.go:172", after := #[], guard := none }) (v := ?_) rfl (by kernel_rfl) (by kernel_rfl) (by kernel_rfl) (fun _ _ _ h => h) (Or.inl ⟨by rfl, ?_⟩) (by assumption) ?_
      rotate_left
      focus (intro w hSw; (try dsimp only at hSw); go_simp <;> with_reducible rfl)
      try simp only [Act.put, List.setIfInBounds_toArray, List.set_cons_zero, List.set_cons_succ]
      refine wpAnyH_ready (rs := [1]) (by kernel_rfl) (by simp) ?_
      refine AllReadyH.cons (o := { dst := some 75, op := Op.call { callee := Callee.value (Operand.func 26), args := #[Operand.tmp 74, Operand.const (Value.int IntKind.u32 0)], argTypes := #[26, 33] }, type := 3, pos := "outright.go:172", after := #[{ on := 0, ground := Ground.data }], guard := none }) rfl (fun K hK => ?_) AllReadyH.nil
      go_simp
      refine (dwants_at hHeld.1 0 (by omega)).mono ?_
      rintro e z1 ⟨rfl, hkz⟩
      rw [wantN_off]
      go_wp2_with fail
      refine shut_grow _ hK (fun _ h => h) ⟨hHeld.1.keep0 hkz, hHeld.2.trans hkz⟩ (fun hHeld1 => ?_)
      clear hK K hHeld hkz
      refine wpAnyH_take (i := 2) (oi := { dst := some 76, op := Op.binOp BinOp.eql 3 (Operand.tmp 75) (Operand.const (Value.int IntKind.i64 0)) 3, type := 4, pos := "outright.go:172", after := #[{ on := 1, ground := Ground.data }], guard := none }) (v := ?_) rfl (by kernel_rfl) (by kernel_rfl) (by kernel_rfl) (fun _ _ _ h => h) (Or.inl ⟨by rfl, ?_⟩) (by assumption) ?_
      rotate_left
      focus (intro w hSw; (try dsimp only at hSw); go_simp <;> with_reducible rfl)
      try simp only [Act.put, List.setIfInBounds_toArray, List.set_cons_zero, List.set_cons_succ]
      refine wpAnyH_take (i := 3) (oi := { dst := some 77, op := Op.move (Operand.tmp 76), type := 4, pos := "outright.go:172", after := #[{ on := 2, ground := Ground.data }, { on := 1, ground := Ground.chain }], guard := none }) (v := ?_) rfl (by kernel_rfl) (by kernel_rfl) (by kernel_rfl) (fun _ _ _ h => h) (Or.inl ⟨by rfl, ?_⟩) (by assumption) ?_
      rotate_left
      focus (intro w hSw; (try dsimp only at hSw); go_simp <;> with_reducible rfl)
      try simp only [Act.put, List.setIfInBounds_toArray, List.set_cons_zero, List.set_cons_succ]
      refine wpAnyH_take (i := 4) (oi := { dst := some 78, op := Op.move (Operand.tmp 8), type := 3, pos := "outright.go:172", after := #[{ on := 3, ground := Ground.guard }], guard := some (3, true) }) (v := ?_) rfl (by kernel_rfl) (by kernel_rfl) (by kernel_rfl) (fun _ _ _ h => h) (Or.inl ⟨by rfl, ?_⟩) (by assumption) ?_
      rotate_left
      focus (intro w hSw; (try dsimp only at hSw); go_simp <;> with_reducible rfl)
      try simp only [Act.put, List.setIfInBounds_toArray, List.set_cons_zero, List.set_cons_succ]
      refine wpAnyH_take (i := 5) (oi := { dst := some 79, op := Op.binOp BinOp.eql 3 (Operand.tmp 78) (Operand.const (Value.int IntKind.i64 0)) 3, type := 4, pos := "outright.go:172", after := #[{ on := 4, ground := Ground.data }, { on := 3, ground := Ground.guard }], guard := some (3, true) }) (v := ?_) rfl (by kernel_rfl) (by kernel_rfl) (by kernel_rfl) (fun _ _ _ h => h) (Or.inl ⟨by rfl, ?_⟩) (by assumption) ?_
      rotate_left
      focus (intro w hSw; (try dsimp only at hSw); go_simp <;> with_reducible rfl)
      try simp only [Act.put, List.setIfInBounds_toArray, List.set_cons_zero, List.set_cons_succ]
      refine wpAnyH_take (i := 6) (oi := { dst := some 80, op := Op.move (Operand.tmp 79), type := 4, pos := "outright.go:172", after := #[{ on := 5, ground := Ground.data }, { on := 3, ground := Ground.chain }, { on := 3, ground := Ground.guard }], guard := some (3, true) }) (v := ?_) rfl (by kernel_rfl) (by kernel_rfl) (by kernel_rfl) (fun _ _ _ h => h) (Or.inl ⟨by rfl, ?_⟩) (by assumption) ?_
      rotate_left
      focus (intro w hSw; (try dsimp only at hSw); go_simp <;> with_reducible rfl)
      try simp only [Act.put, List.setIfInBounds_toArray, List.set_cons_zero, List.set_cons_succ]
      refine wpAnyH_take (i := 7) (oi := { dst := some 81, op := Op.move (Operand.tmp 5), type := 26, pos := "outright.go:172", after := #[{ on := 6, ground := Ground.guard }], guard := some (6, false) }) (v := ?_) rfl (by kernel_rfl) (by kernel_rfl) (by kernel_rfl) (fun _ _ _ h => h) (Or.inl ⟨by rfl, ?_⟩) (by assumption) ?_
      rotate_left
      focus (intro w hSw; (try dsimp only at hSw); go_simp <;> with_reducible rfl)
      try simp only [Act.put, List.setIfInBounds_toArray, List.set_cons_zero, List.set_cons_succ]
      refine wpAnyH_take (i := 9) (oi := { dst := some 83, op := Op.move (Operand.tmp 7), type := 33, pos := "outright.go:172", after := #[{ on := 6, ground := Ground.guard }], guard := some (6, false) }) (v := ?_) rfl (by kernel_rfl) (by kernel_rfl) (by kernel_rfl) (fun _ _ _ h => h) (Or.inl ⟨by rfl, ?_⟩) (by assumption) ?_
      rotate_left
      focus (intro w hSw; (try dsimp only at hSw); go_simp <;> with_reducible rfl)
      try simp only [Act.put, List.setIfInBounds_toArray, List.set_cons_zero, List.set_cons_succ]
      refine wpAnyH_take (i := 10) (oi := { dst := some 84, op := Op.move (Operand.tmp 8), type := 3, pos := "outright.go:172", after := #[{ on := 6, ground := Ground.guard }], guard := some (6, false) }) (v := ?_) rfl (by kernel_rfl) (by kernel_rfl) (by kernel_rfl) (fun _ _ _ h => h) (Or.inl ⟨by rfl, ?_⟩) (by assumption) ?_
      rotate_left
      focus (intro w hSw; (try dsimp only at hSw); go_simp <;> with_reducible rfl)
      try simp only [Act.put, List.setIfInBounds_toArray, List.set_cons_zero, List.set_cons_succ]
      refine wpAnyH_take (i := 11) (oi := { dst := some 85, op := Op.binOp BinOp.sub 3 (Operand.tmp 84) (Operand.const (Value.int IntKind.i64 9)) 3, type := 3, pos := "outright.go:172", after := #[{ on := 10, ground := Ground.data }, { on := 6, ground := Ground.guard }], guard := some (6, false) }) (v := ?_) rfl (by kernel_rfl) (by kernel_rfl) (by kernel_rfl) (fun _ _ _ h => h) (Or.inl ⟨by rfl, ?_⟩) (by assumption) ?_
      rotate_left
      focus (intro w hSw; (try dsimp only at hSw); go_simp <;> with_reducible rfl)
      try simp only [Act.put, List.setIfInBounds_toArray, List.set_cons_zero, List.set_cons_succ]
      refine wpAnyH_take (i := 12) (oi := { dst := some 86, op := Op.binOp BinOp.shl 33 (Operand.const (Value.int IntKind.u32 1)) (Operand.tmp 85) 3, type := 33, pos := "outright.go:172", after := #[{ on := 11, ground := Ground.data }, { on := 6, ground := Ground.guard }], guard := some (6, false) }) (v := ?_) rfl (by kernel_rfl) (by kernel_rfl) (by kernel_rfl) (fun _ _ _ h => h) (Or.inl ⟨by rfl, ?_⟩) (by assumption) ?_
      rotate_left
      focus (intro w hSw; (try dsimp only at hSw); go_simp <;> with_reducible rfl)
      try simp only [Act.put, List.setIfInBounds_toArray, List.set_cons_zero, List.set_cons_succ]
      refine wpAnyH_take (i := 13) (oi := { dst := some 87, op := Op.binOp BinOp.andNot 33 (Operand.tmp 83) (Operand.tmp 86) 33, type := 33, pos := "outright.go:172", after := #[{ on := 9, ground := Ground.data }, { on := 12, ground := Ground.data }, { on := 6, ground := Ground.guard }], guard := some (6, false) }) (v := ?_) rfl (by kernel_rfl) (by kernel_rfl) (by kernel_rfl) (fun _ _ _ h => h) (Or.inl ⟨by rfl, ?_⟩) (by assumption) ?_
      rotate_left
      focus (intro w hSw; (try dsimp only at hSw); go_simp <;> with_reducible rfl)
      try simp only [Act.put, List.setIfInBounds_toArray, List.set_cons_zero, List.set_cons_succ]
      refine wpAnyH_ready (rs := [8]) (by kernel_rfl) (by simp) ?_
      refine AllReadyH.cons (o := { dst := some 82, op := Op.call { callee := Callee.value (Operand.func 13), args := #[Operand.tmp 81, Operand.const (Value.int IntKind.i64 6)], argTypes := #[26, 3] }, type := 33, pos := "outright.go:172", after := #[{ on := 7, ground := Ground.data }, { on := 6, ground := Ground.chain }, { on := 6, ground := Ground.guard }], guard := some (6, false) }) rfl (fun K hK => ?_) AllReadyH.nil
      go_simp
      refine (din_at hHeld1.1 _).mono ?_
      rintro e z2 ⟨rfl, rfl⟩
      rw [HI6'.out]
      go_wp2_with fail
      refine shut_grow _ hK (fun _ h => h) hHeld1 (fun hHeld1 => ?_)
      clear hK K
      refine wpAnyH_take (i := 14) (oi := { dst := some 88, op := Op.binOp BinOp.eql 33 (Operand.tmp 82) (Operand.tmp 87) 33, type := 4, pos := "outright.go:172", after := #[{ on := 8, ground := Ground.data }, { on := 13, ground := Ground.data }, { on := 6, ground := Ground.guard }], guard := some (6, false) }) (v := ?_) rfl (by kernel_rfl) (by kernel_rfl) (by kernel_rfl) (fun _ _ _ h => h) (Or.inl ⟨by rfl, ?_⟩) (by assumption) ?_
      rotate_left
      focus (intro w hSw; (try dsimp only at hSw); go_simp <;> with_reducible rfl)
      try simp only [Act.put, List.setIfInBounds_toArray, List.set_cons_zero, List.set_cons_succ]
      refine wpAnyH_take (i := 15) (oi := { dst := some 89, op := Op.pick (Operand.tmp 80) (Operand.const (Value.bool true)) (Operand.tmp 88), type := 4, pos := "outright.go:172", after := #[{ on := 6, ground := Ground.data }, { on := 14, ground := Ground.data }, { on := 3, ground := Ground.guard }], guard := some (3, true) }) (v := ?_) rfl (by kernel_rfl) (by kernel_rfl) (by kernel_rfl) (fun _ _ _ h => h) (Or.inl ⟨by rfl, ?_⟩) (by assumption) ?_
      rotate_left
      focus (intro w hSw; (try dsimp only at hSw); go_simp <;> with_reducible rfl)
      try simp only [Act.put, List.setIfInBounds_toArray, List.set_cons_zero, List.set_cons_succ]
      refine wpAnyH_take (i := 16) (oi := { dst := some 90, op := Op.pick (Operand.tmp 77) (Operand.tmp 89) (Operand.const (Value.bool false)), type := 4, pos := "outright.go:172", after := #[{ on := 3, ground := Ground.data }, { on := 15, ground := Ground.data }], guard := none }) (v := ?_) rfl (by kernel_rfl) (by kernel_rfl) (by kernel_rfl) (fun _ _ _ h => h) (Or.inl ⟨by rfl, ?_⟩) (by assumption) ?_
      rotate_left
      focus (intro w hSw; (try dsimp only at hSw); go_simp <;> with_reducible rfl)
      try simp only [Act.put, List.setIfInBounds_toArray, List.set_cons_zero, List.set_cons_succ]
      refine wpAnyH_take (i := 17) (oi := { dst := some 91, op := Op.move (Operand.tmp 90), type := 4, pos := "outright.go:172", after := #[{ on := 16, ground := Ground.data }, { on := 8, ground := Ground.chain }], guard := none }) (v := ?_) rfl (by kernel_rfl) (by kernel_rfl) (by kernel_rfl) (fun _ _ _ h => h) (Or.inl ⟨by rfl, ?_⟩) (by assumption) ?_
      rotate_left
      focus (intro w hSw; (try dsimp only at hSw); go_simp <;> with_reducible rfl)
      try simp only [Act.put, List.setIfInBounds_toArray, List.set_cons_zero, List.set_cons_succ]
      refine wpAnyH_ready (rs := [18]) (by kernel_rfl) (by simp) ?_
      refine AllReadyH.cons (o := { dst := some 92, op := Op.call { callee := Callee.value (Operand.func 15), args := #[], argTypes := #[] }, type := 4, pos := "outright.go:172", after := #[{ on := 17, ground := Ground.chain }, { on := 17, ground := Ground.guard }], guard := some (17, true) }) rfl (fun K hK => ?_) AllReadyH.nil
      go_simp
      refine (works_at _).mono ?_
      rintro e z3 ⟨rfl, hkz⟩
      go_wp2_with fail
      refine shut_grow _ hK (fun _ h => h) ⟨hHeld1.1.keep0 hkz, hHeld1.2.trans hkz⟩ (fun hHeld => ?_)
      clear hK K hkz hHeld1
      refine wpAnyH_take (i := 19) (oi := { dst := some 93, op := Op.pick (Operand.tmp 91) (Operand.tmp 92) (Operand.const (Value.bool false)), type := 4, pos := "outright.go:172", after := #[{ on := 17, ground := Ground.data }, { on := 18, ground := Ground.data }], guard := none }) (v := ?_) rfl (by kernel_rfl) (by kernel_rfl) (by kernel_rfl) (fun _ _ _ h => h) (Or.inl ⟨by rfl, ?_⟩) (by assumption) ?_
      rotate_left
      focus (intro w hSw; (try dsimp only at hSw); go_simp <;> with_reducible rfl)
      try simp only [Act.put, List.setIfInBounds_toArray, List.set_cons_zero, List.set_cons_succ]
      refine wpAnyH_take (i := 20) (oi := { dst := some 4, op := Op.assign (Operand.tmp 93), type := 4, pos := "outright.go:172", after := #[{ on := 19, ground := Ground.data }, { on := 18, ground := Ground.chain }, { on := 0, ground := Ground.phase }, { on := 1, ground := Ground.phase }, { on := 2, ground := Ground.phase }, { on := 3, ground := Ground.phase }, { on := 4, ground := Ground.phase }, { on := 5, ground := Ground.phase }, { on := 6, ground := Ground.phase }, { on := 7, ground := Ground.phase }, { on := 8, ground := Ground.phase }, { on := 9, ground := Ground.phase }, { on := 10, ground := Ground.phase }, { on := 11, ground := Ground.phase }, { on := 12, ground := Ground.phase }, { on := 13, ground := Ground.phase }, { on := 14, ground := Ground.phase }, { on := 15, ground := Ground.phase }, { on := 16, ground := Ground.phase }, { on := 17, ground := Ground.phase }, { on := 18, ground := Ground.phase }, { on := 19, ground := Ground.phase }], guard := none }) (v := ?_) rfl (by kernel_rfl) (by kernel_rfl) (by kernel_rfl) (fun _ _ _ h => h) (Or.inl ⟨by rfl, ?_⟩) (by assumption) ?_
      rotate_left
      focus (intro w hSw; (try dsimp only at hSw); go_simp <;> with_reducible rfl)
      try simp only [Act.put, List.setIfInBounds_toArray, List.set_cons_zero, List.set_cons_succ]
      refine wpAnyH_done (by kernel_rfl) ?_ _
      have HW := Lib.hid hHeld.2
      clear hHeld
      go_wp2_with fail
      go_ret
      exact ⟨rfl, masked_end HK1.out HK2.out HK3.out hk4 HK5.out HW.out⟩
    · rw [show wantN 2 5 = 9 from rfl]
      go_wp2_with (first
        | (go_at_call 13; refine (din_at HD4.out _).mono ?_; rintro e w5 ⟨rfl, rfl⟩; first | rw [HI6.out] | rw [HI5.out])
        | (go_at_call 27; refine (dtaken_at HD4.out _).mono ?_; rintro e w5 ⟨⟨u, rfl⟩, F5, hd5, hk5, hf5⟩; have HD5 := Lib.hid hd5; have HK5 := Lib.hid (And.intro hk5 hf5); clear hd5 hk5 hf5))
      obtain ⟨s5, hs5⟩ : ∃ s5, s5 = takenS s3 (9) := ⟨_, rfl⟩
      have hi6' : inS s5 6 = ((s1.bits &&& 6 : Nat) : Int) := by rw [hs5, HS3.out]; rfl
      have HI6' := Lib.hid hi6'
      rw [← hs5] at HD5
      clear hs5 hi6' HI6 HI5 HD4 HD3
      refine wp_region_held_drew (S := fun z => DvAt z b F5 s5 ∧ Keep [] w5 z) (by kernel_rfl) ⟨HD5.out.keep0 (Keep.refl _ _).drew, (Keep.refl _ _).drew⟩ (fun hHeld => ?_)
      generalize World.drew w5 = z0 at hHeld ⊢
      skip
      refine wpAnyH_take (i := 0) (oi := { dst := some 74, op := Op.move (Operand.tmp 5), type := 26, pos := "outright.go:172", after := #[], guard := none }) (v := ?_) rfl (by kernel_rfl) (by kernel_rfl) (by kernel_rfl) (fun _ _ _ h => h) (Or.inl ⟨by rfl, ?_⟩) (by assumption) ?_
      rotate_left
      focus (intro w hSw; (try dsimp only at hSw); go_simp <;> with_reducible rfl)
      try simp only [Act.put, List.setIfInBounds_toArray, List.set_cons_zero, List.set_cons_succ]
      refine wpAnyH_ready (rs := [1]) (by kernel_rfl) (by simp) ?_
      refine AllReadyH.cons (o := { dst := some 75, op := Op.call { callee := Callee.value (Operand.func 26), args := #[Operand.tmp 74, Operand.const (Value.int IntKind.u32 0)], argTypes := #[26, 33] }, type := 3, pos := "outright.go:172", after := #[{ on := 0, ground := Ground.data }], guard := none }) rfl (fun K hK => ?_) AllReadyH.nil
      go_simp
      refine (dwants_at hHeld.1 0 (by omega)).mono ?_
      rintro e z1 ⟨rfl, hkz⟩
      rw [wantN_off]
      go_wp2_with fail
      refine shut_grow _ hK (fun _ h => h) ⟨hHeld.1.keep0 hkz, hHeld.2.trans hkz⟩ (fun hHeld1 => ?_)
      clear hK K hHeld hkz
      refine wpAnyH_take (i := 2) (oi := { dst := some 76, op := Op.binOp BinOp.eql 3 (Operand.tmp 75) (Operand.const (Value.int IntKind.i64 0)) 3, type := 4, pos := "outright.go:172", after := #[{ on := 1, ground := Ground.data }], guard := none }) (v := ?_) rfl (by kernel_rfl) (by kernel_rfl) (by kernel_rfl) (fun _ _ _ h => h) (Or.inl ⟨by rfl, ?_⟩) (by assumption) ?_
      rotate_left
      focus (intro w hSw; (try dsimp only at hSw); go_simp <;> with_reducible rfl)
      try simp only [Act.put, List.setIfInBounds_toArray, List.set_cons_zero, List.set_cons_succ]
      refine wpAnyH_take (i := 3) (oi := { dst := some 77, op := Op.move (Operand.tmp 76), type := 4, pos := "outright.go:172", after := #[{ on := 2, ground := Ground.data }, { on := 1, ground := Ground.chain }], guard := none }) (v := ?_) rfl (by kernel_rfl) (by kernel_rfl) (by kernel_rfl) (fun _ _ _ h => h) (Or.inl ⟨by rfl, ?_⟩) (by assumption) ?_
      rotate_left
      focus (intro w hSw; (try dsimp only at hSw); go_simp <;> with_reducible rfl)
      try simp only [Act.put, List.setIfInBounds_toArray, List.set_cons_zero, List.set_cons_succ]
      refine wpAnyH_take (i := 4) (oi := { dst := some 78, op := Op.move (Operand.tmp 8), type := 3, pos := "outright.go:172", after := #[{ on := 3, ground := Ground.guard }], guard := some (3, true) }) (v := ?_) rfl (by kernel_rfl) (by kernel_rfl) (by kernel_rfl) (fun _ _ _ h => h) (Or.inl ⟨by rfl, ?_⟩) (by assumption) ?_
      rotate_left
      focus (intro w hSw; (try dsimp only at hSw); go_simp <;> with_reducible rfl)
      try simp only [Act.put, List.setIfInBounds_toArray, List.set_cons_zero, List.set_cons_succ]
      refine wpAnyH_take (i := 5) (oi := { dst := some 79, op := Op.binOp BinOp.eql 3 (Operand.tmp 78) (Operand.const (Value.int IntKind.i64 0)) 3, type := 4, pos := "outright.go:172", after := #[{ on := 4, ground := Ground.data }, { on := 3, ground := Ground.guard }], guard := some (3, true) }) (v := ?_) rfl (by kernel_rfl) (by kernel_rfl) (by kernel_rfl) (fun _ _ _ h => h) (Or.inl ⟨by rfl, ?_⟩) (by assumption) ?_
      rotate_left
      focus (intro w hSw; (try dsimp only at hSw); go_simp <;> with_reducible rfl)
      try simp only [Act.put, List.setIfInBounds_toArray, List.set_cons_zero, List.set_cons_succ]
      refine wpAnyH_take (i := 6) (oi := { dst := some 80, op := Op.move (Operand.tmp 79), type := 4, pos := "outright.go:172", after := #[{ on := 5, ground := Ground.data }, { on := 3, ground := Ground.chain }, { on := 3, ground := Ground.guard }], guard := some (3, true) }) (v := ?_) rfl (by kernel_rfl) (by kernel_rfl) (by kernel_rfl) (fun _ _ _ h => h) (Or.inl ⟨by rfl, ?_⟩) (by assumption) ?_
      rotate_left
      focus (intro w hSw; (try dsimp only at hSw); go_simp <;> with_reducible rfl)
      try simp only [Act.put, List.setIfInBounds_toArray, List.set_cons_zero, List.set_cons_succ]
      refine wpAnyH_take (i := 7) (oi := { dst := some 81, op := Op.move (Operand.tmp 5), type := 26, pos := "outright.go:172", after := #[{ on := 6, ground := Ground.guard }], guard := some (6, false) }) (v := ?_) rfl (by kernel_rfl) (by kernel_rfl) (by kernel_rfl) (fun _ _ _ h => h) (Or.inl ⟨by rfl, ?_⟩) (by assumption) ?_
      rotate_left
      focus (intro w hSw; (try dsimp only at hSw); go_simp <;> with_reducible rfl)
      try simp only [Act.put, List.setIfInBounds_toArray, List.set_cons_zero, List.set_cons_succ]
      refine wpAnyH_take (i := 9) (oi := { dst := some 83, op := Op.move (Operand.tmp 7), type := 33, pos := "outright.go:172", after := #[{ on := 6, ground := Ground.guard }], guard := some (6, false) }) (v := ?_) rfl (by kernel_rfl) (by kernel_rfl) (by kernel_rfl) (fun _ _ _ h => h) (Or.inl ⟨by rfl, ?_⟩) (by assumption) ?_
      rotate_left
      focus (intro w hSw; (try dsimp only at hSw); go_simp <;> with_reducible rfl)
      try simp only [Act.put, List.setIfInBounds_toArray, List.set_cons_zero, List.set_cons_succ]
      refine wpAnyH_take (i := 10) (oi := { dst := some 84, op := Op.move (Operand.tmp 8), type := 3, pos := "outright.go:172", after := #[{ on := 6, ground := Ground.guard }], guard := some (6, false) }) (v := ?_) rfl (by kernel_rfl) (by kernel_rfl) (by kernel_rfl) (fun _ _ _ h => h) (Or.inl ⟨by rfl, ?_⟩) (by assumption) ?_
      rotate_left
      focus (intro w hSw; (try dsimp only at hSw); go_simp <;> with_reducible rfl)
      try simp only [Act.put, List.setIfInBounds_toArray, List.set_cons_zero, List.set_cons_succ]
      refine wpAnyH_take (i := 11) (oi := { dst := some 85, op := Op.binOp BinOp.sub 3 (Operand.tmp 84) (Operand.const (Value.int IntKind.i64 9)) 3, type := 3, pos := "outright.go:172", after := #[{ on := 10, ground := Ground.data }, { on := 6, ground := Ground.guard }], guard := some (6, false) }) (v := ?_) rfl (by kernel_rfl) (by kernel_rfl) (by kernel_rfl) (fun _ _ _ h => h) (Or.inl ⟨by rfl, ?_⟩) (by assumption) ?_
      rotate_left
      focus (intro w hSw; (try dsimp only at hSw); go_simp <;> with_reducible rfl)
      try simp only [Act.put, List.setIfInBounds_toArray, List.set_cons_zero, List.set_cons_succ]
      refine wpAnyH_take (i := 12) (oi := { dst := some 86, op := Op.binOp BinOp.shl 33 (Operand.const (Value.int IntKind.u32 1)) (Operand.tmp 85) 3, type := 33, pos := "outright.go:172", after := #[{ on := 11, ground := Ground.data }, { on := 6, ground := Ground.guard }], guard := some (6, false) }) (v := ?_) rfl (by kernel_rfl) (by kernel_rfl) (by kernel_rfl) (fun _ _ _ h => h) (Or.inl ⟨by rfl, ?_⟩) (by assumption) ?_
      rotate_left
      focus (intro w hSw; (try dsimp only at hSw); go_simp <;> with_reducible rfl)
      try simp only [Act.put, List.setIfInBounds_toArray, List.set_cons_zero, List.set_cons_succ]
      refine wpAnyH_take (i := 13) (oi := { dst := some 87, op := Op.binOp BinOp.andNot 33 (Operand.tmp 83) (Operand.tmp 86) 33, type := 33, pos := "outright.go:172", after := #[{ on := 9, ground := Ground.data }, { on := 12, ground := Ground.data }, { on := 6, ground := Ground.guard }], guard := some (6, false) }) (v := ?_) rfl (by kernel_rfl) (by kernel_rfl) (by kernel_rfl) (fun _ _ _ h => h) (Or.inl ⟨by rfl, ?_⟩) (by assumption) ?_
      rotate_left
      focus (intro w hSw; (try dsimp only at hSw); go_simp <;> with_reducible rfl)
      try simp only [Act.put, List.setIfInBounds_toArray, List.set_cons_zero, List.set_cons_succ]
      refine wpAnyH_ready (rs := [8]) (by kernel_rfl) (by simp) ?_
      refine AllReadyH.cons (o := { dst := some 82, op := Op.call { callee := Callee.value (Operand.func 13), args := #[Operand.tmp 81, Operand.const (Value.int IntKind.i64 6)], argTypes := #[26, 3] }, type := 33, pos := "outright.go:172", after := #[{ on := 7, ground := Ground.data }, { on := 6, ground := Ground.chain }, { on := 6, ground := Ground.guard }], guard := some (6, false) }) rfl (fun K hK => ?_) AllReadyH.nil
      go_simp
      refine (din_at hHeld1.1 _).mono ?_
      rintro e z2 ⟨rfl, rfl⟩
      rw [HI6'.out]
      go_wp2_with fail
      refine shut_grow _ hK (fun _ h => h) hHeld1 (fun hHeld1 => ?_)
      clear hK K
      refine wpAnyH_take (i := 14) (oi := { dst := some 88, op := Op.binOp BinOp.eql 33 (Operand.tmp 82) (Operand.tmp 87) 33, type := 4, pos := "outright.go:172", after := #[{ on := 8, ground := Ground.data }, { on := 13, ground := Ground.data }, { on := 6, ground := Ground.guard }], guard := some (6, false) }) (v := ?_) rfl (by kernel_rfl) (by kernel_rfl) (by kernel_rfl) (fun _ _ _ h => h) (Or.inl ⟨by rfl, ?_⟩) (by assumption) ?_
      rotate_left
      focus (intro w hSw; (try dsimp only at hSw); go_simp <;> with_reducible rfl)
      try simp only [Act.put, List.setIfInBounds_toArray, List.set_cons_zero, List.set_cons_succ]
      refine wpAnyH_take (i := 15) (oi := { dst := some 89, op := Op.pick (Operand.tmp 80) (Operand.const (Value.bool true)) (Operand.tmp 88), type := 4, pos := "outright.go:172", after := #[{ on := 6, ground := Ground.data }, { on := 14, ground := Ground.data }, { on := 3, ground := Ground.guard }], guard := some (3, true) }) (v := ?_) rfl (by kernel_rfl) (by kernel_rfl) (by kernel_rfl) (fun _ _ _ h => h) (Or.inl ⟨by rfl, ?_⟩) (by assumption) ?_
      rotate_left
      focus (intro w hSw; (try dsimp only at hSw); go_simp <;> with_reducible rfl)
      try simp only [Act.put, List.setIfInBounds_toArray, List.set_cons_zero, List.set_cons_succ]
      refine wpAnyH_take (i := 16) (oi := { dst := some 90, op := Op.pick (Operand.tmp 77) (Operand.tmp 89) (Operand.const (Value.bool false)), type := 4, pos := "outright.go:172", after := #[{ on := 3, ground := Ground.data }, { on := 15, ground := Ground.data }], guard := none }) (v := ?_) rfl (by kernel_rfl) (by kernel_rfl) (by kernel_rfl) (fun _ _ _ h => h) (Or.inl ⟨by rfl, ?_⟩) (by assumption) ?_
      rotate_left
      focus (intro w hSw; (try dsimp only at hSw); go_simp <;> with_reducible rfl)
      try simp only [Act.put, List.setIfInBounds_toArray, List.set_cons_zero, List.set_cons_succ]
      refine wpAnyH_take (i := 17) (oi := { dst := some 91, op := Op.move (Operand.tmp 90), type := 4, pos := "outright.go:172", after := #[{ on := 16, ground := Ground.data }, { on := 8, ground := Ground.chain }], guard := none }) (v := ?_) rfl (by kernel_rfl) (by kernel_rfl) (by kernel_rfl) (fun _ _ _ h => h) (Or.inl ⟨by rfl, ?_⟩) (by assumption) ?_
      rotate_left
      focus (intro w hSw; (try dsimp only at hSw); go_simp <;> with_reducible rfl)
      try simp only [Act.put, List.setIfInBounds_toArray, List.set_cons_zero, List.set_cons_succ]
      refine wpAnyH_ready (rs := [18]) (by kernel_rfl) (by simp) ?_
      refine AllReadyH.cons (o := { dst := some 92, op := Op.call { callee := Callee.value (Operand.func 15), args := #[], argTypes := #[] }, type := 4, pos := "outright.go:172", after := #[{ on := 17, ground := Ground.chain }, { on := 17, ground := Ground.guard }], guard := some (17, true) }) rfl (fun K hK => ?_) AllReadyH.nil
      go_simp
      refine (works_at _).mono ?_
      rintro e z3 ⟨rfl, hkz⟩
      go_wp2_with fail
      refine shut_grow _ hK (fun _ h => h) ⟨hHeld1.1.keep0 hkz, hHeld1.2.trans hkz⟩ (fun hHeld => ?_)
      clear hK K hkz hHeld1
      refine wpAnyH_take (i := 19) (oi := { dst := some 93, op := Op.pick (Operand.tmp 91) (Operand.tmp 92) (Operand.const (Value.bool false)), type := 4, pos := "outright.go:172", after := #[{ on := 17, ground := Ground.data }, { on := 18, ground := Ground.data }], guard := none }) (v := ?_) rfl (by kernel_rfl) (by kernel_rfl) (by kernel_rfl) (fun _ _ _ h => h) (Or.inl ⟨by rfl, ?_⟩) (by assumption) ?_
      rotate_left
      focus (intro w hSw; (try dsimp only at hSw); go_simp <;> with_reducible rfl)
      try simp only [Act.put, List.setIfInBounds_toArray, List.set_cons_zero, List.set_cons_succ]
      refine wpAnyH_take (i := 20) (oi := { dst := some 4, op := Op.assign (Operand.tmp 93), type := 4, pos := "outright.go:172", after := #[{ on := 19, ground := Ground.data }, { on := 18, ground := Ground.chain }, { on := 0, ground := Ground.phase }, { on := 1, ground := Ground.phase }, { on := 2, ground := Ground.phase }, { on := 3, ground := Ground.phase }, { on := 4, ground := Ground.phase }, { on := 5, ground := Ground.phase }, { on := 6, ground := Ground.phase }, { on := 7, ground := Ground.phase }, { on := 8, ground := Ground.phase }, { on := 9, ground := Ground.phase }, { on := 10, ground := Ground.phase }, { on := 11, ground := Ground.phase }, { on := 12, ground := Ground.phase }, { on := 13, ground := Ground.phase }, { on := 14, ground := Ground.phase }, { on := 15, ground := Ground.phase }, { on := 16, ground := Ground.phase }, { on := 17, ground := Ground.phase }, { on := 18, ground := Ground.phase }, { on := 19, ground := Ground.phase }], guard := none }) (v := ?_) rfl (by kernel_rfl) (by kernel_rfl) (by kernel_rfl) (fun _ _ _ h => h) (Or.inl ⟨by rfl, ?_⟩) (by assumption) ?_
      rotate_left
      focus (intro w hSw; (try dsimp only at hSw); go_simp <;> with_reducible rfl)
      try simp only [Act.put, List.setIfInBounds_toArray, List.set_cons_zero, List.set_cons_succ]
      refine wpAnyH_done (by kernel_rfl) ?_ _
      have HW := Lib.hid hHeld.2
      clear hHeld
      go_wp2_with fail
      go_ret
      exact ⟨rfl, masked_end HK1.out HK2.out HK3.out hk4 HK5.out HW.out⟩
    · rw [show wantN 2 6 = 10 from rfl]
      go_wp2_with (first
        | (go_at_call 13; refine (din_at HD4.out _).mono ?_; rintro e w5 ⟨rfl, rfl⟩; first | rw [HI6.out] | rw [HI5.out])
        | (go_at_call 27; refine (dtaken_at HD4.out _).mono ?_; rintro e w5 ⟨⟨u, rfl⟩, F5, hd5, hk5, hf5⟩; have HD5 := Lib.hid hd5; have HK5 := Lib.hid (And.intro hk5 hf5); clear hd5 hk5 hf5))
      obtain ⟨s5, hs5⟩ : ∃ s5, s5 = takenS s3 (10) := ⟨_, rfl⟩
      have hi6' : inS s5 6 = ((s1.bits &&& 5 : Nat) : Int) := by rw [hs5, HS3.out]; rfl
      have HI6' := Lib.hid hi6'
      rw [← hs5] at HD5
      clear hs5 hi6' HI6 HI5 HD4 HD3
      refine wp_region_held_drew (S := fun z => DvAt z b F5 s5 ∧ Keep [] w5 z) (by kernel_rfl) ⟨HD5.out.keep0 (Keep.refl _ _).drew, (Keep.refl _ _).drew⟩ (fun hHeld => ?_)
      generalize World.drew w5 = z0 at hHeld ⊢
      skip
      refine wpAnyH_take (i := 0) (oi := { dst := some 74, op := Op.move (Operand.tmp 5), type := 26, pos := "outright.go:172", after := #[], guard := none }) (v := ?_) rfl (by kernel_rfl) (by kernel_rfl) (by kernel_rfl) (fun _ _ _ h => h) (Or.inl ⟨by rfl, ?_⟩) (by assumption) ?_
      rotate_left
      focus (intro w hSw; (try dsimp only at hSw); go_simp <;> with_reducible rfl)
      try simp only [Act.put, List.setIfInBounds_toArray, List.set_cons_zero, List.set_cons_succ]
      refine wpAnyH_ready (rs := [1]) (by kernel_rfl) (by simp) ?_
      refine AllReadyH.cons (o := { dst := some 75, op := Op.call { callee := Callee.value (Operand.func 26), args := #[Operand.tmp 74, Operand.const (Value.int IntKind.u32 0)], argTypes := #[26, 33] }, type := 3, pos := "outright.go:172", after := #[{ on := 0, ground := Ground.data }], guard := none }) rfl (fun K hK => ?_) AllReadyH.nil
      go_simp
      refine (dwants_at hHeld.1 0 (by omega)).mono ?_
      rintro e z1 ⟨rfl, hkz⟩
      rw [wantN_off]
      go_wp2_with fail
      refine shut_grow _ hK (fun _ h => h) ⟨hHeld.1.keep0 hkz, hHeld.2.trans hkz⟩ (fun hHeld1 => ?_)
      clear hK K hHeld hkz
      refine wpAnyH_take (i := 2) (oi := { dst := some 76, op := Op.binOp BinOp.eql 3 (Operand.tmp 75) (Operand.const (Value.int IntKind.i64 0)) 3, type := 4, pos := "outright.go:172", after := #[{ on := 1, ground := Ground.data }], guard := none }) (v := ?_) rfl (by kernel_rfl) (by kernel_rfl) (by kernel_rfl) (fun _ _ _ h => h) (Or.inl ⟨by rfl, ?_⟩) (by assumption) ?_
      rotate_left
      focus (intro w hSw; (try dsimp only at hSw); go_simp <;> with_reducible rfl)
      try simp only [Act.put, List.setIfInBounds_toArray, List.set_cons_zero, List.set_cons_succ]
      refine wpAnyH_take (i := 3) (oi := { dst := some 77, op := Op.move (Operand.tmp 76), type := 4, pos := "outright.go:172", after := #[{ on := 2, ground := Ground.data }, { on := 1, ground := Ground.chain }], guard := none }) (v := ?_) rfl (by kernel_rfl) (by kernel_rfl) (by kernel_rfl) (fun _ _ _ h => h) (Or.inl ⟨by rfl, ?_⟩) (by assumption) ?_
      rotate_left
      focus (intro w hSw; (try dsimp only at hSw); go_simp <;> with_reducible rfl)
      try simp only [Act.put, List.setIfInBounds_toArray, List.set_cons_zero, List.set_cons_succ]
      refine wpAnyH_take (i := 4) (oi := { dst := some 78, op := Op.move (Operand.tmp 8), type := 3, pos := "outright.go:172", after := #[{ on := 3, ground := Ground.guard }], guard := some (3, true) }) (v := ?_) rfl (by kernel_rfl) (by kernel_rfl) (by kernel_rfl) (fun _ _ _ h => h) (Or.inl ⟨by rfl, ?_⟩) (by assumption) ?_
      rotate_left
      focus (intro w hSw; (try dsimp only at hSw); go_simp <;> with_reducible rfl)
      try simp only [Act.put, List.setIfInBounds_toArray, List.set_cons_zero, List.set_cons_succ]
      refine wpAnyH_take (i := 5) (oi := { dst := some 79, op := Op.binOp BinOp.eql 3 (Operand.tmp 78) (Operand.const (Value.int IntKind.i64 0)) 3, type := 4, pos := "outright.go:172", after := #[{ on := 4, ground := Ground.data }, { on := 3, ground := Ground.guard }], guard := some (3, true) }) (v := ?_) rfl (by kernel_rfl) (by kernel_rfl) (by kernel_rfl) (fun _ _ _ h => h) (Or.inl ⟨by rfl, ?_⟩) (by assumption) ?_
      rotate_left
      focus (intro w hSw; (try dsimp only at hSw); go_simp <;> with_reducible rfl)
      try simp only [Act.put, List.setIfInBounds_toArray, List.set_cons_zero, List.set_cons_succ]
      refine wpAnyH_take (i := 6) (oi := { dst := some 80, op := Op.move (Operand.tmp 79), type := 4, pos := "outright.go:172", after := #[{ on := 5, ground := Ground.data }, { on := 3, ground := Ground.chain }, { on := 3, ground := Ground.guard }], guard := some (3, true) }) (v := ?_) rfl (by kernel_rfl) (by kernel_rfl) (by kernel_rfl) (fun _ _ _ h => h) (Or.inl ⟨by rfl, ?_⟩) (by assumption) ?_
      rotate_left
      focus (intro w hSw; (try dsimp only at hSw); go_simp <;> with_reducible rfl)
      try simp only [Act.put, List.setIfInBounds_toArray, List.set_cons_zero, List.set_cons_succ]
      refine wpAnyH_take (i := 7) (oi := { dst := some 81, op := Op.move (Operand.tmp 5), type := 26, pos := "outright.go:172", after := #[{ on := 6, ground := Ground.guard }], guard := some (6, false) }) (v := ?_) rfl (by kernel_rfl) (by kernel_rfl) (by kernel_rfl) (fun _ _ _ h => h) (Or.inl ⟨by rfl, ?_⟩) (by assumption) ?_
      rotate_left
      focus (intro w hSw; (try dsimp only at hSw); go_simp <;> with_reducible rfl)
      try simp only [Act.put, List.setIfInBounds_toArray, List.set_cons_zero, List.set_cons_succ]
      refine wpAnyH_take (i := 9) (oi := { dst := some 83, op := Op.move (Operand.tmp 7), type := 33, pos := "outright.go:172", after := #[{ on := 6, ground := Ground.guard }], guard := some (6, false) }) (v := ?_) rfl (by kernel_rfl) (by kernel_rfl) (by kernel_rfl) (fun _ _ _ h => h) (Or.inl ⟨by rfl, ?_⟩) (by assumption) ?_
      rotate_left
      focus (intro w hSw; (try dsimp only at hSw); go_simp <;> with_reducible rfl)
      try simp only [Act.put, List.setIfInBounds_toArray, List.set_cons_zero, List.set_cons_succ]
      refine wpAnyH_take (i := 10) (oi := { dst := some 84, op := Op.move (Operand.tmp 8), type := 3, pos := "outright.go:172", after := #[{ on := 6, ground := Ground.guard }], guard := some (6, false) }) (v := ?_) rfl (by kernel_rfl) (by kernel_rfl) (by kernel_rfl) (fun _ _ _ h => h) (Or.inl ⟨by rfl, ?_⟩) (by assumption) ?_
      rotate_left
      focus (intro w hSw; (try dsimp only at hSw); go_simp <;> with_reducible rfl)
      try simp only [Act.put, List.setIfInBounds_toArray, List.set_cons_zero, List.set_cons_succ]
      refine wpAnyH_take (i := 11) (oi := { dst := some 85, op := Op.binOp BinOp.sub 3 (Operand.tmp 84) (Operand.const (Value.int IntKind.i64 9)) 3, type := 3, pos := "outright.go:172", after := #[{ on := 10, ground := Ground.data }, { on := 6, ground := Ground.guard }], guard := some (6, false) }) (v := ?_) rfl (by kernel_rfl) (by kernel_rfl) (by kernel_rfl) (fun _ _ _ h => h) (Or.inl ⟨by rfl, ?_⟩) (by assumption) ?_
      rotate_left
      focus (intro w hSw; (try dsimp only at hSw); go_simp <;> with_reducible rfl)
      try simp only [Act.put, List.setIfInBounds_toArray, List.set_cons_zero, List.set_cons_succ]
      refine wpAnyH_take (i := 12) (oi := { dst := some 86, op := Op.binOp BinOp.shl 33 (Operand.const (Value.int IntKind.u32 1)) (Operand.tmp 85) 3, type := 33, pos := "outright.go:172", after := #[{ on := 11, ground := Ground.data }, { on := 6, ground := Ground.guard }], guard := some (6, false) }) (v := ?_) rfl (by kernel_rfl) (by kernel_rfl) (by kernel_rfl) (fun _ _ _ h => h) (Or.inl ⟨by rfl, ?_⟩) (by assumption) ?_
      rotate_left
      focus (intro w hSw; (try dsimp only at hSw); go_simp <;> with_reducible rfl)
      try simp only [Act.put, List.setIfInBounds_toArray, List.set_cons_zero, List.set_cons_succ]
      refine wpAnyH_take (i := 13) (oi := { dst := some 87, op := Op.binOp BinOp.andNot 33 (Operand.tmp 83) (Operand.tmp 86) 33, type := 33, pos := "outright.go:172", after := #[{ on := 9, ground := Ground.data }, { on := 12, ground := Ground.data }, { on := 6, ground := Ground.guard }], guard := some (6, false) }) (v := ?_) rfl (by kernel_rfl) (by kernel_rfl) (by kernel_rfl) (fun _ _ _ h => h) (Or.inl ⟨by rfl, ?_⟩) (by assumption) ?_
      rotate_left
      focus (intro w hSw; (try dsimp only at hSw); go_simp <;> with_reducible rfl)
      try simp only [Act.put, List.setIfInBounds_toArray, List.set_cons_zero, List.set_cons_succ]
      refine wpAnyH_ready (rs := [8]) (by kernel_rfl) (by simp) ?_
      refine AllReadyH.cons (o := { dst := some 82, op := Op.call { callee := Callee.value (Operand.func 13), args := #[Operand.tmp 81, Operand.const (Value.int IntKind.i64 6)], argTypes := #[26, 3] }, type := 33, pos := "outright.go:172", after := #[{ on := 7, ground := Ground.data }, { on := 6, ground := Ground.chain }, { on := 6, ground := Ground.guard }], guard := some (6, false) }) rfl (fun K hK => ?_) AllReadyH.nil
      go_simp
      refine (din_at hHeld1.1 _).mono ?_
      rintro e z2 ⟨rfl, rfl⟩
      rw [HI6'.out]
      go_wp2_with fail
      refine shut_grow _ hK (fun _ h => h) hHeld1 (fun hHeld1 => ?_)
      clear hK K
      refine wpAnyH_take (i := 14) (oi := { dst := some 88, op := Op.binOp BinOp.eql 33 (Operand.tmp 82) (Operand.tmp 87) 33, type := 4, pos := "outright.go:172", after := #[{ on := 8, ground := Ground.data }, { on := 13, ground := Ground.data }, { on := 6, ground := Ground.guard }], guard := some (6, false) }) (v := ?_) rfl (by kernel_rfl) (by kernel_rfl) (by kernel_rfl) (fun _ _ _ h => h) (Or.inl ⟨by rfl, ?_⟩) (by assumption) ?_
      rotate_left
      focus (intro w hSw; (try dsimp only at hSw); go_simp <;> with_reducible rfl)
      try simp only [Act.put, List.setIfInBounds_toArray, List.set_cons_zero, List.set_cons_succ]
      refine wpAnyH_take (i := 15) (oi := { dst := some 89, op := Op.pick (Operand.tmp 80) (Operand.const (Value.bool true)) (Operand.tmp 88), type := 4, pos := "outright.go:172", after := #[{ on := 6, ground := Ground.data }, { on := 14, ground := Ground.data }, { on := 3, ground := Ground.guard }], guard := some (3, true) }) (v := ?_) rfl (by kernel_rfl) (by kernel_rfl) (by kernel_rfl) (fun _ _ _ h => h) (Or.inl ⟨by rfl, ?_⟩) (by assumption) ?_
      rotate_left
      focus (intro w hSw; (try dsimp only at hSw); go_simp <;> with_reducible rfl)
      try simp only [Act.put, List.setIfInBounds_toArray, List.set_cons_zero, List.set_cons_succ]
      refine wpAnyH_take (i := 16) (oi := { dst := some 90, op := Op.pick (Operand.tmp 77) (Operand.tmp 89) (Operand.const (Value.bool false)), type := 4, pos := "outright.go:172", after := #[{ on := 3, ground := Ground.data }, { on := 15, ground := Ground.data }], guard := none }) (v := ?_) rfl (by kernel_rfl) (by kernel_rfl) (by kernel_rfl) (fun _ _ _ h => h) (Or.inl ⟨by rfl, ?_⟩) (by assumption) ?_
      rotate_left
      focus (intro w hSw; (try dsimp only at hSw); go_simp <;> with_reducible rfl)
      try simp only [Act.put, List.setIfInBounds_toArray, List.set_cons_zero, List.set_cons_succ]
      refine wpAnyH_take (i := 17) (oi := { dst := some 91, op := Op.move (Operand.tmp 90), type := 4, pos := "outright.go:172", after := #[{ on := 16, ground := Ground.data }, { on := 8, ground := Ground.chain }], guard := none }) (v := ?_) rfl (by kernel_rfl) (by kernel_rfl) (by kernel_rfl) (fun _ _ _ h => h) (Or.inl ⟨by rfl, ?_⟩) (by assumption) ?_
      rotate_left
      focus (intro w hSw; (try dsimp only at hSw); go_simp <;> with_reducible rfl)
      try simp only [Act.put, List.setIfInBounds_toArray, List.set_cons_zero, List.set_cons_succ]
      refine wpAnyH_ready (rs := [18]) (by kernel_rfl) (by simp) ?_
      refine AllReadyH.cons (o := { dst := some 92, op := Op.call { callee := Callee.value (Operand.func 15), args := #[], argTypes := #[] }, type := 4, pos := "outright.go:172", after := #[{ on := 17, ground := Ground.chain }, { on := 17, ground := Ground.guard }], guard := some (17, true) }) rfl (fun K hK => ?_) AllReadyH.nil
      go_simp
      refine (works_at _).mono ?_
      rintro e z3 ⟨rfl, hkz⟩
      go_wp2_with fail
      refine shut_grow _ hK (fun _ h => h) ⟨hHeld1.1.keep0 hkz, hHeld1.2.trans hkz⟩ (fun hHeld => ?_)
      clear hK K hkz hHeld1
      refine wpAnyH_take (i := 19) (oi := { dst := some 93, op := Op.pick (Operand.tmp 91) (Operand.tmp 92) (Operand.const (Value.bool false)), type := 4, pos := "outright.go:172", after := #[{ on := 17, ground := Ground.data }, { on := 18, ground := Ground.data }], guard := none }) (v := ?_) rfl (by kernel_rfl) (by kernel_rfl) (by kernel_rfl) (fun _ _ _ h => h) (Or.inl ⟨by rfl, ?_⟩) (by assumption) ?_
      rotate_left
      focus (intro w hSw; (try dsimp only at hSw); go_simp <;> with_reducible rfl)
      try simp only [Act.put, List.setIfInBounds_toArray, List.set_cons_zero, List.set_cons_succ]
      refine wpAnyH_take (i := 20) (oi := { dst := some 4, op := Op.assign (Operand.tmp 93), type := 4, pos := "outright.go:172", after := #[{ on := 19, ground := Ground.data }, { on := 18, ground := Ground.chain }, { on := 0, ground := Ground.phase }, { on := 1, ground := Ground.phase }, { on := 2, ground := Ground.phase }, { on := 3, ground := Ground.phase }, { on := 4, ground := Ground.phase }, { on := 5, ground := Ground.phase }, { on := 6, ground := Ground.phase }, { on := 7, ground := Ground.phase }, { on := 8, ground := Ground.phase }, { on := 9, ground := Ground.phase }, { on := 10, ground := Ground.phase }, { on := 11, ground := Ground.phase }, { on := 12, ground := Ground.phase }, { on := 13, ground := Ground.phase }, { on := 14, ground := Ground.phase }, { on := 15, ground := Ground.phase }, { on := 16, ground := Ground.phase }, { on := 17, ground := Ground.phase }, { on := 18, ground := Ground.phase }, { on := 19, ground := Ground.phase }], guard := none }) (v := ?_) rfl (by kernel_rfl) (by kernel_rfl) (by kernel_rfl) (fun _ _ _ h => h) (Or.inl ⟨by rfl, ?_⟩) (by assumption) ?_
      rotate_left
      focus (intro w hSw; (try dsimp only at hSw); go_simp <;> with_reducible rfl)
      try simp only [Act.put, List.setIfInBounds_toArray, List.set_cons_zero, List.set_cons_succ]
      refine wpAnyH_done (by kernel_rfl) ?_ _
      have HW := Lib.hid hHeld.2
      clear hHeld
      go_wp2_with fail
      go_ret
      exact ⟨rfl, masked_end HK1.out HK2.out HK3.out hk4 HK5.out HW.out⟩
    · rw [show wantN 2 7 = 9 from rfl]
      go_wp2_with (first
        | (go_at_call 13; refine (din_at HD4.out _).mono ?_; rintro e w5 ⟨rfl, rfl⟩; first | rw [HI6.out] | rw [HI5.out])
        | (go_at_call 27; refine (dtaken_at HD4.out _).mono ?_; rintro e w5 ⟨⟨u, rfl⟩, F5, hd5, hk5, hf5⟩; have HD5 := Lib.hid hd5; have HK5 := Lib.hid (And.intro hk5 hf5); clear hd5 hk5 hf5))
      obtain ⟨s5, hs5⟩ : ∃ s5, s5 = takenS s3 (9) := ⟨_, rfl⟩
      have hi6' : inS s5 6 = ((s1.bits &&& 6 : Nat) : Int) := by rw [hs5, HS3.out]; rfl
      have HI6' := Lib.hid hi6'
      rw [← hs5] at HD5
      clear hs5 hi6' HI6 HI5 HD4 HD3
      refine wp_region_held_drew (S := fun z => DvAt z b F5 s5 ∧ Keep [] w5 z) (by kernel_rfl) ⟨HD5.out.keep0 (Keep.refl _ _).drew, (Keep.refl _ _).drew⟩ (fun hHeld => ?_)
      generalize World.drew w5 = z0 at hHeld ⊢
      skip
      refine wpAnyH_take (i := 0) (oi := { dst := some 74, op := Op.move (Operand.tmp 5), type := 26, pos := "outright.go:172", after := #[], guard := none }) (v := ?_) rfl (by kernel_rfl) (by kernel_rfl) (by kernel_rfl) (fun _ _ _ h => h) (Or.inl ⟨by rfl, ?_⟩) (by assumption) ?_
      rotate_left
      focus (intro w hSw; (try dsimp only at hSw); go_simp <;> with_reducible rfl)
      try simp only [Act.put, List.setIfInBounds_toArray, List.set_cons_zero, List.set_cons_succ]
      refine wpAnyH_ready (rs := [1]) (by kernel_rfl) (by simp) ?_
      refine AllReadyH.cons (o := { dst := some 75, op := Op.call { callee := Callee.value (Operand.func 26), args := #[Operand.tmp 74, Operand.const (Value.int IntKind.u32 0)], argTypes := #[26, 33] }, type := 3, pos := "outright.go:172", after := #[{ on := 0, ground := Ground.data }], guard := none }) rfl (fun K hK => ?_) AllReadyH.nil
      go_simp
      refine (dwants_at hHeld.1 0 (by omega)).mono ?_
      rintro e z1 ⟨rfl, hkz⟩
      rw [wantN_off]
      go_wp2_with fail
      refine shut_grow _ hK (fun _ h => h) ⟨hHeld.1.keep0 hkz, hHeld.2.trans hkz⟩ (fun hHeld1 => ?_)
      clear hK K hHeld hkz
      refine wpAnyH_take (i := 2) (oi := { dst := some 76, op := Op.binOp BinOp.eql 3 (Operand.tmp 75) (Operand.const (Value.int IntKind.i64 0)) 3, type := 4, pos := "outright.go:172", after := #[{ on := 1, ground := Ground.data }], guard := none }) (v := ?_) rfl (by kernel_rfl) (by kernel_rfl) (by kernel_rfl) (fun _ _ _ h => h) (Or.inl ⟨by rfl, ?_⟩) (by assumption) ?_
      rotate_left
      focus (intro w hSw; (try dsimp only at hSw); go_simp <;> with_reducible rfl)
      try simp only [Act.put, List.setIfInBounds_toArray, List.set_cons_zero, List.set_cons_succ]
      refine wpAnyH_take (i := 3) (oi := { dst := some 77, op := Op.move (Operand.tmp 76), type := 4, pos := "outright.go:172", after := #[{ on := 2, ground := Ground.data }, { on := 1, ground := Ground.chain }], guard := none }) (v := ?_) rfl (by kernel_rfl) (by kernel_rfl) (by kernel_rfl) (fun _ _ _ h => h) (Or.inl ⟨by rfl, ?_⟩) (by assumption) ?_
      rotate_left
      focus (intro w hSw; (try dsimp only at hSw); go_simp <;> with_reducible rfl)
      try simp only [Act.put, List.setIfInBounds_toArray, List.set_cons_zero, List.set_cons_succ]
      refine wpAnyH_take (i := 4) (oi := { dst := some 78, op := Op.move (Operand.tmp 8), type := 3, pos := "outright.go:172", after := #[{ on := 3, ground := Ground.guard }], guard := some (3, true) }) (v := ?_) rfl (by kernel_rfl) (by kernel_rfl) (by kernel_rfl) (fun _ _ _ h => h) (Or.inl ⟨by rfl, ?_⟩) (by assumption) ?_
      rotate_left
      focus (intro w hSw; (try dsimp only at hSw); go_simp <;> with_reducible rfl)
      try simp only [Act.put, List.setIfInBounds_toArray, List.set_cons_zero, List.set_cons_succ]
      refine wpAnyH_take (i := 5) (oi := { dst := some 79, op := Op.binOp BinOp.eql 3 (Operand.tmp 78) (Operand.const (Value.int IntKind.i64 0)) 3, type := 4, pos := "outright.go:172", after := #[{ on := 4, ground := Ground.data }, { on := 3, ground := Ground.guard }], guard := some (3, true) }) (v := ?_) rfl (by kernel_rfl) (by kernel_rfl) (by kernel_rfl) (fun _ _ _ h => h) (Or.inl ⟨by rfl, ?_⟩) (by assumption) ?_
      rotate_left
      focus (intro w hSw; (try dsimp only at hSw); go_simp <;> with_reducible rfl)
      try simp only [Act.put, List.setIfInBounds_toArray, List.set_cons_zero, List.set_cons_succ]
      refine wpAnyH_take (i := 6) (oi := { dst := some 80, op := Op.move (Operand.tmp 79), type := 4, pos := "outright.go:172", after := #[{ on := 5, ground := Ground.data }, { on := 3, ground := Ground.chain }, { on := 3, ground := Ground.guard }], guard := some (3, true) }) (v := ?_) rfl (by kernel_rfl) (by kernel_rfl) (by kernel_rfl) (fun _ _ _ h => h) (Or.inl ⟨by rfl, ?_⟩) (by assumption) ?_
      rotate_left
      focus (intro w hSw; (try dsimp only at hSw); go_simp <;> with_reducible rfl)
      try simp only [Act.put, List.setIfInBounds_toArray, List.set_cons_zero, List.set_cons_succ]
      refine wpAnyH_take (i := 7) (oi := { dst := some 81, op := Op.move (Operand.tmp 5), type := 26, pos := "outright.go:172", after := #[{ on := 6, ground := Ground.guard }], guard := some (6, false) }) (v := ?_) rfl (by kernel_rfl) (by kernel_rfl) (by kernel_rfl) (fun _ _ _ h => h) (Or.inl ⟨by rfl, ?_⟩) (by assumption) ?_
      rotate_left
      focus (intro w hSw; (try dsimp only at hSw); go_simp <;> with_reducible rfl)
      try simp only [Act.put, List.setIfInBounds_toArray, List.set_cons_zero, List.set_cons_succ]
      refine wpAnyH_take (i := 9) (oi := { dst := some 83, op := Op.move (Operand.tmp 7), type := 33, pos := "outright.go:172", after := #[{ on := 6, ground := Ground.guard }], guard := some (6, false) }) (v := ?_) rfl (by kernel_rfl) (by kernel_rfl) (by kernel_rfl) (fun _ _ _ h => h) (Or.inl ⟨by rfl, ?_⟩) (by assumption) ?_
      rotate_left
      focus (intro w hSw; (try dsimp only at hSw); go_simp <;> with_reducible rfl)
      try simp only [Act.put, List.setIfInBounds_toArray, List.set_cons_zero, List.set_cons_succ]
      refine wpAnyH_take (i := 10) (oi := { dst := some 84, op := Op.move (Operand.tmp 8), type := 3, pos := "outright.go:172", after := #[{ on := 6, ground := Ground.guard }], guard := some (6, false) }) (v := ?_) rfl (by kernel_rfl) (by kernel_rfl) (by kernel_rfl) (fun _ _ _ h => h) (Or.inl ⟨by rfl, ?_⟩) (by assumption) ?_
      rotate_left
      focus (intro w hSw; (try dsimp only at hSw); go_simp <;> with_reducible rfl)
      try simp only [Act.put, List.setIfInBounds_toArray, List.set_cons_zero, List.set_cons_succ]
      refine wpAnyH_take (i := 11) (oi := { dst := some 85, op := Op.binOp BinOp.sub 3 (Operand.tmp 84) (Operand.const (Value.int IntKind.i64 9)) 3, type := 3, pos := "outright.go:172", after := #[{ on := 10, ground := Ground.data }, { on := 6, ground := Ground.guard }], guard := some (6, false) }) (v := ?_) rfl (by kernel_rfl) (by kernel_rfl) (by kernel_rfl) (fun _ _ _ h => h) (Or.inl ⟨by rfl, ?_⟩) (by assumption) ?_
      rotate_left
      focus (intro w hSw; (try dsimp only at hSw); go_simp <;> with_reducible rfl)
      try simp only [Act.put, List.setIfInBounds_toArray, List.set_cons_zero, List.set_cons_succ]
      refine wpAnyH_take (i := 12) (oi := { dst := some 86, op := Op.binOp BinOp.shl 33 (Operand.const (Value.int IntKind.u32 1)) (Operand.tmp 85) 3, type := 33, pos := "outright.go:172", after := #[{ on := 11, ground := Ground.data }, { on := 6, ground := Ground.guard }], guard := some (6, false) }) (v := ?_) rfl (by kernel_rfl) (by kernel_rfl) (by kernel_rfl) (fun _ _ _ h => h) (Or.inl ⟨by rfl, ?_⟩) (by assumption) ?_
      rotate_left
      focus (intro w hSw; (try dsimp only at hSw); go_simp <;> with_reducible rfl)
      try simp only [Act.put, List.setIfInBounds_toArray, List.set_cons_zero, List.set_cons_succ]
      refine wpAnyH_take (i := 13) (oi := { dst := some 87, op := Op.binOp BinOp.andNot 33 (Operand.tmp 83) (Operand.tmp 86) 33, type := 33, pos := "outright.go:172", after := #[{ on := 9, ground := Ground.data }, { on := 12, ground := Ground.data }, { on := 6, ground := Ground.guard }], guard := some (6, false) }) (v := ?_) rfl (by kernel_rfl) (by kernel_rfl) (by kernel_rfl) (fun _ _ _ h => h) (Or.inl ⟨by rfl, ?_⟩) (by assumption) ?_
      rotate_left
      focus (intro w hSw; (try dsimp only at hSw); go_simp <;> with_reducible rfl)
      try simp only [Act.put, List.setIfInBounds_toArray, List.set_cons_zero, List.set_cons_succ]
      refine wpAnyH_ready (rs := [8]) (by kernel_rfl) (by simp) ?_
      refine AllReadyH.cons (o := { dst := some 82, op := Op.call { callee := Callee.value (Operand.func 13), args := #[Operand.tmp 81, Operand.const (Value.int IntKind.i64 6)], argTypes := #[26, 3] }, type := 33, pos := "outright.go:172", after := #[{ on := 7, ground := Ground.data }, { on := 6, ground := Ground.chain }, { on := 6, ground := Ground.guard }], guard := some (6, false) }) rfl (fun K hK => ?_) AllReadyH.nil
      go_simp
      refine (din_at hHeld1.1 _).mono ?_
      rintro e z2 ⟨rfl, rfl⟩
      rw [HI6'.out]
      go_wp2_with fail
      refine shut_grow _ hK (fun _ h => h) hHeld1 (fun hHeld1 => ?_)
      clear hK K
      refine wpAnyH_take (i := 14) (oi := { dst := some 88, op := Op.binOp BinOp.eql 33 (Operand.tmp 82) (Operand.tmp 87) 33, type := 4, pos := "outright.go:172", after := #[{ on := 8, ground := Ground.data }, { on := 13, ground := Ground.data }, { on := 6, ground := Ground.guard }], guard := some (6, false) }) (v := ?_) rfl (by kernel_rfl) (by kernel_rfl) (by kernel_rfl) (fun _ _ _ h => h) (Or.inl ⟨by rfl, ?_⟩) (by assumption) ?_
      rotate_left
      focus (intro w hSw; (try dsimp only at hSw); go_simp <;> with_reducible rfl)
      try simp only [Act.put, List.setIfInBounds_toArray, List.set_cons_zero, List.set_cons_succ]
      refine wpAnyH_take (i := 15) (oi := { dst := some 89, op := Op.pick (Operand.tmp 80) (Operand.const (Value.bool true)) (Operand.tmp 88), type := 4, pos := "outright.go:172", after := #[{ on := 6, ground := Ground.data }, { on := 14, ground := Ground.data }, { on := 3, ground := Ground.guard }], guard := some (3, true) }) (v := ?_) rfl (by kernel_rfl) (by kernel_rfl) (by kernel_rfl) (fun _ _ _ h => h) (Or.inl ⟨by rfl, ?_⟩) (by assumption) ?_
      rotate_left
      focus (intro w hSw; (try dsimp only at hSw); go_simp <;> with_reducible rfl)
      try simp only [Act.put, List.setIfInBounds_toArray, List.set_cons_zero, List.set_cons_succ]
      refine wpAnyH_take (i := 16) (oi := { dst := some 90, op := Op.pick (Operand.tmp 77) (Operand.tmp 89) (Operand.const (Value.bool false)), type := 4, pos := "outright.go:172", after := #[{ on := 3, ground := Ground.data }, { on := 15, ground := Ground.data }], guard := none }) (v := ?_) rfl (by kernel_rfl) (by kernel_rfl) (by kernel_rfl) (fun _ _ _ h => h) (Or.inl ⟨by rfl, ?_⟩) (by assumption) ?_
      rotate_left
      focus (intro w hSw; (try dsimp only at hSw); go_simp <;> with_reducible rfl)
      try simp only [Act.put, List.setIfInBounds_toArray, List.set_cons_zero, List.set_cons_succ]
      refine wpAnyH_take (i := 17) (oi := { dst := some 91, op := Op.move (Operand.tmp 90), type := 4, pos := "outright.go:172", after := #[{ on := 16, ground := Ground.data }, { on := 8, ground := Ground.chain }], guard := none }) (v := ?_) rfl (by kernel_rfl) (by kernel_rfl) (by kernel_rfl) (fun _ _ _ h => h) (Or.inl ⟨by rfl, ?_⟩) (by assumption) ?_
      rotate_left
      focus (intro w hSw; (try dsimp only at hSw); go_simp <;> with_reducible rfl)
      try simp only [Act.put, List.setIfInBounds_toArray, List.set_cons_zero, List.set_cons_succ]
      refine wpAnyH_ready (rs := [18]) (by kernel_rfl) (by simp) ?_
      refine AllReadyH.cons (o := { dst := some 92, op := Op.call { callee := Callee.value (Operand.func 15), args := #[], argTypes := #[] }, type := 4, pos := "outright.go:172", after := #[{ on := 17, ground := Ground.chain }, { on := 17, ground := Ground.guard }], guard := some (17, true) }) rfl (fun K hK => ?_) AllReadyH.nil
      go_simp
      refine (works_at _).mono ?_
      rintro e z3 ⟨rfl, hkz⟩
      go_wp2_with fail
      refine shut_grow _ hK (fun _ h => h) ⟨hHeld1.1.keep0 hkz, hHeld1.2.trans hkz⟩ (fun hHeld => ?_)
      clear hK K hkz hHeld1
      refine wpAnyH_take (i := 19) (oi := { dst := some 93, op := Op.pick (Operand.tmp 91) (Operand.tmp 92) (Operand.const (Value.bool false)), type := 4, pos := "outright.go:172", after := #[{ on := 17, ground := Ground.data }, { on := 18, ground := Ground.data }], guard := none }) (v := ?_) rfl (by kernel_rfl) (by kernel_rfl) (by kernel_rfl) (fun _ _ _ h => h) (Or.inl ⟨by rfl, ?_⟩) (by assumption) ?_
      rotate_left
      focus (intro w hSw; (try dsimp only at hSw); go_simp <;> with_reducible rfl)
      try simp only [Act.put, List.setIfInBounds_toArray, List.set_cons_zero, List.set_cons_succ]
      refine wpAnyH_take (i := 20) (oi := { dst := some 4, op := Op.assign (Operand.tmp 93), type := 4, pos := "outright.go:172", after := #[{ on := 19, ground := Ground.data }, { on := 18, ground := Ground.chain }, { on := 0, ground := Ground.phase }, { on := 1, ground := Ground.phase }, { on := 2, ground := Ground.phase }, { on := 3, ground := Ground.phase }, { on := 4, ground := Ground.phase }, { on := 5, ground := Ground.phase }, { on := 6, ground := Ground.phase }, { on := 7, ground := Ground.phase }, { on := 8, ground := Ground.phase }, { on := 9, ground := Ground.phase }, { on := 10, ground := Ground.phase }, { on := 11, ground := Ground.phase }, { on := 12, ground := Ground.phase }, { on := 13, ground := Ground.phase }, { on := 14, ground := Ground.phase }, { on := 15, ground := Ground.phase }, { on := 16, ground := Ground.phase }, { on := 17, ground := Ground.phase }, { on := 18, ground := Ground.phase }, { on := 19, ground := Ground.phase }], guard := none }) (v := ?_) rfl (by kernel_rfl) (by kernel_rfl) (by kernel_rfl) (fun _ _ _ h => h) (Or.inl ⟨by rfl, ?_⟩) (by assumption) ?_
      rotate_left
      focus (intro w hSw; (try dsimp only at hSw); go_simp <;> with_reducible rfl)
      try simp only [Act.put, List.setIfInBounds_toArray, List.set_cons_zero, List.set_cons_succ]
      refine wpAnyH_done (by kernel_rfl) ?_ _
      have HW := Lib.hid hHeld.2
      clear hHeld
      go_wp2_with fail
      go_ret
      exact ⟨rfl, masked_end HK1.out HK2.out HK3.out hk4 HK5.out HW.out⟩
  · have N1 := Lib.hid (new_no (a2 := none) (c2 := 0) hR hE)
    have hle := errS_cases hE
    generalize errS L 0 = E at *
    clear hR hL
    rcases hle with rfl | rfl
    all_goals
      go_enter Try.func7, Try.ntmps7
      go_wp2_with (first
        | (go_at_call 11; refine N1.out.mono ?_; rintro e w1 ⟨rfl, hk⟩; have HK1 := Lib.hid hk; clear hk)
        | (go_at_call 15; refine (works_at _).mono ?_; rintro e w2 ⟨rfl, hk⟩; have HK2 := Lib.hid hk; clear hk))
      go_ret
      exact ⟨rfl, (HK1.out.trans HK2.out).below (Nat.le_refl _) (by simp)⟩

end Go.Proofs.Ytgeakpeaohggoaa
