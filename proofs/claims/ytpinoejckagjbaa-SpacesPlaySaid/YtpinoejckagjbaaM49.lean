/- Contracts of the functions that the law reaches, walked, and the plain laws on them (several texts in one). -/
import Derived.Test.YtpinoejckagjbaaM48
import Derived.Test.YtpinoejckagjbaaM06
import Derived.Test.YtpinoejckagjbaaM07

/- A page put in a space leads somewhere. -/
namespace Go.Proofs.Ytpinoejckagjbaa
open Go.RowKit Go.Mum
set_option linter.unusedVariables false
set_option linter.unusedSimpArgs false
set_option maxRecDepth 100000

theorem KeepUp.nil {w y : World} (h : KeepUp w.heap.size w y) : Keep [] w y := by
  obtain ⟨l, hl, hk⟩ := h
  exact hk.weaken (fun k hk hlt => by have := hl k hk; omega)

/-- A page put where there is room. -/
theorem put_room {most ns : Nat} {T T' : Nat → Nat → Tab} {up : Nat → Bool} {L lent : List Int} {age : List Nat} {n va bb : Nat} {frame : Int} {b : Bool} (hI : MInv most ns T up L lent) (hn : n < ns) (hr : lent.length < most ∨ (T n (va / 1024)).th = true) (hok : va / 1024 < 32 ∧ ¬ (16384 ≤ va ∧ up n = true) ∧ 0 ≤ frame ∧ frame < 60)
    (hq : PutQ most ns T up lent age n va frame bb b T') : b = true ∧ PutM most ns T up lent n va frame bb true T' := by
  have hno : ¬ PutM most ns T up lent n va frame bb false T := by
    rintro (⟨h, -⟩ | ⟨-, h, -⟩ | ⟨-, h1, h2, -, -⟩)
    · rcases h with h | h | h | h
      · omega
      · exact hok.2.1 h
      · omega
      · omega
    · cases h
    · rcases hr with hr | hr
      · have := nodup_le_int ((List.range most).map fun j : Nat => (40 : Int) + (j : Int)) lent (by
          rw [List.nodup_iff_pairwise_ne, List.pairwise_map]
          exact (List.nodup_iff_pairwise_ne.1 List.nodup_range).imp (fun h => by omega)) (fun z hz => by
          rw [List.mem_map] at hz
          obtain ⟨j, hj, rfl⟩ := hz
          exact h2 j (List.mem_range.1 hj))
        simp only [List.length_map, List.length_range] at this
        omega
      · rw [hr] at h1; cases h1
  rcases hq with ⟨h, rfl⟩ | ⟨h, -⟩ | ⟨h, -⟩
  · exact ⟨rfl, h⟩
  · exact absurd h hno
  · exact absurd h hno

/-- Where a page leads that was put. -/
theorem put_leads {most ns : Nat} {T T' : Nat → Nat → Tab} {up : Nat → Bool} {lent : List Int} {n va bb : Nat} {frame : Int} (h : PutM most ns T up lent n va frame bb true T') : (T' n (va / 1024)).th = true ∧ leads (T' n) va = entryOf frame.toNat bb ∧ (∀ m, m ≠ n → T' m = T m) ∧ ∀ k, k ≠ va / 1024 → T' n k = T n k := by
  rcases h with ⟨-, h, -⟩ | ⟨⟨h1, h2, h3, h4⟩, -, T1, hl, rfl⟩ | ⟨-, -, -, h, -⟩
  · cases h
  · have ht : (T1 (va / 1024)).th = true := by
      rcases hl with ⟨h, rfl⟩ | ⟨-, f, -, -, -, rfl⟩
      · exact h
      · rw [setTab_same]
    refine ⟨by rw [setSh_same, setTab_same]; exact ht, ?_, fun m hm => setSh_ne hm, fun k hk => ?_⟩
    · unfold leads
      rw [setSh_same, if_pos ⟨h1, by rw [setTab_same]; exact ht⟩, setTab_same]
      exact if_pos rfl
    · rw [setSh_same, setTab_ne hk]
      rcases hl with ⟨_, rfl⟩ | ⟨-, f, -, -, -, rfl⟩
      · rfl
      · exact setTab_ne hk
  · cases h

/-- A page of a space is looked up. -/
theorem mlook_at {x : World} {sh : Nat → Nat} {uv : Nat → Value} {r fb g p pm most ns : Nat} {T : Nat → Nat → Tab} {up : Nat → Bool} {L lent : List Int} {c : Nat} (h : MAt x sh uv r fb g p pm most ns T up L lent c) {k : Nat} (hk : k < ns) (va : Nat) (hv : va < 4294967296) :
    Calls Try.prog 15 #[.pointer (some ⟨r, 0, none⟩), .int .u32 ((64 * (20 + 2 * k) : Nat) : Int), .int .i64 32, .int .u32 va] x fun e y => Keep [] x y ∧ ((leads (T k) va = 0 ∧ e = .returned (.tuple #[.agg #[.int .u32 0, .int .u32 0, .int .u32 0, .int .i64 0, .int .i64 0, .int .i64 0], .bool false])) ∨ ∃ f b a e1 d t : Nat, f < 60 ∧ b < 16 ∧ b % 2 = 1 ∧ leads (T k) va = 64 * f + b ∧ e = .returned (.tuple #[.agg #[.int .u32 (b : Nat), .int .u32 (a : Nat), .int .u32 (e1 : Nat), .int .i64 (d : Nat), .int .i64 (t : Nat), .int .i64 (f : Nat)], .bool true])) := by
  have hm := mem_of_ram h.ram (by rw [h.inv.len]) (by omega)
  have hns := h.inv.nsb
  refine (look_at hm (64 * (20 + 2 * k)) 32 va (by omega) (by omega) hv).mono ?_
  rintro e y ⟨he, hk'⟩
  refine ⟨hk', ?_⟩
  rcases lookM h.inv hk va with ⟨h0, h1⟩ | ⟨f, b, h1, h2, h3, h4, e1, d, t, h5⟩
  · rw [h1] at he
    exact .inl ⟨h0, he⟩
  · rw [h5] at he
    exact .inr ⟨f, b, _, e1, d, t, h1, h2, h3, h4, he⟩

section
variable {x y : World} {W0 B q r fb g p pm most ns rb : Nat} {sh : Nat → Nat} {ga gc : Nat} {ea : Option Addr} {ec : Nat} {T : Nat → Nat → Tab} {up : Nat → Bool} {A : QSt} {age : List Nat} {use : Bool} {kept lost c : Nat} {R : RSt} {ager : List Nat} {user : Bool} {cr : Nat}

theorem hb_root (h : HB x W0 B q r fb g p pm most ns rb sh ga gc ea ec T up A age true kept lost c R ager user cr) {i : Nat} (hi : i + 1 = age.length) :
    Calls Try.prog 33 #[.pointer (some ⟨q, 0, none⟩)] x fun e y => e = .returned (.int .u32 ((64 * (20 + 2 * age[i]'(by omega)) : Nat) : Int)) ∧ Keep [] x y := by
  obtain ⟨g2, c2, h2, hr, uv, L, lent, f, hs, hv⟩ := h.two
  exact (root_at hs hi).mono fun e y ⟨h1, m, h2⟩ => ⟨h1, by rw [h2]; exact (Keep.refl _ _).drewN _⟩

theorem hb_look (h : HB x W0 B q r fb g p pm most ns rb sh ga gc ea ec T up A age use kept lost c R ager user cr) {k : Nat} (hk : k < ns) (va : Nat) (hv : va < 4294967296) :
    Calls Try.prog 15 #[.pointer (some ⟨r, 0, none⟩), .int .u32 ((64 * (20 + 2 * k) : Nat) : Int), .int .i64 32, .int .u32 va] x fun e y => Keep [] x y ∧ ((leads (T k) va = 0 ∧ e = .returned (.tuple #[.agg #[.int .u32 0, .int .u32 0, .int .u32 0, .int .i64 0, .int .i64 0, .int .i64 0], .bool false])) ∨ ∃ f b a e1 d t : Nat, f < 60 ∧ b < 16 ∧ b % 2 = 1 ∧ leads (T k) va = 64 * f + b ∧ e = .returned (.tuple #[.agg #[.int .u32 (b : Nat), .int .u32 (a : Nat), .int .u32 (e1 : Nat), .int .i64 (d : Nat), .int .i64 (t : Nat), .int .i64 (f : Nat)], .bool true])) := by
  obtain ⟨g2, c2, h2, hr, uv, L, lent, f, hs, hv'⟩ := h.two
  exact mlook_at hs.m hk va hv
end

set_option maxHeartbeats 4000000 in
theorem spworks_at (w : World) : Calls Try.prog 29 #[] w fun e w' => e = .returned (.bool true) ∧ Keep [] w w' := by
  go_enter Try.func29, Try.ntmps29
  go_wp2_with fail
  refine (spmade_at 1 2 (by omega) (by omega) w).mono ?_
  rintro e y ⟨B, q, r, fb, g, p, pm, rb, sh, ga, gc, ea, ec, rfl, hH, hk⟩
  have H1 := Lib.hid (And.intro hH hk)
  clear hH hk
  go_wp2_with fail
  refine (hb_pselect H1.out.1 (by omega) (by omega) 1 0 false).mono ?_
  rintro e z ⟨rr, A', age', T', up', kept', lost', rfl, hq, hH2, hk2⟩
  have hq2 : rr = false ∧ A' = A0.take 0 1 0 false ∧ age' = youngL (List.range (1 + 1 % 8)) 0 ∧ T' = setSh (fun _ _ => tab0) 0 (fun _ => tab0) ∧ up' = setUp (fun _ => false) 0 false := by
    rcases hq with ⟨n, _, h, _⟩ | ⟨_, h1, h0, h2, h3, h4, h5, _⟩
    · cases h
    · exact ⟨h1, h2, h3, h4, h5⟩
  obtain ⟨rfl, rfl, rfl, rfl, rfl⟩ := hq2
  have hT : setSh (fun _ _ => tab0) 0 (fun _ => tab0) = fun (_ : Nat) (_ : Nat) => tab0 := by
    funext m; unfold setSh; split <;> rfl
  rw [hT] at hH2
  have hage : youngL (List.range (1 + 1 % 8)) 0 = [1, 0] := by decide
  rw [hage] at hH2
  have H2 : Hid (HB z w.heap.size B q r fb g p pm (2 % 10) (1 + 1 % 8) rb sh ga gc ea ec (fun _ _ => tab0) (setUp (fun _ => false) 0 false) (A0.take 0 1 0 false) [1, 0] true kept' lost' 0 R0 (List.range (1 + 1 % 8)) false 0 ∧ KeepUp w.heap.size w z) := Lib.hid ⟨hH2, (Keep.upTo H1.out.2 (by simp)).trans hk2⟩
  clear hH2 hk2 hq hT hage
  go_wp2_with fail
  refine (hb_pput H2.out.1 (by omega) (i := 1) (by simp) 65 3 2 (by omega) (by omega) (by omega) (by omega)).mono ?_
  rintro e z2 ⟨b, T', rfl, ⟨L, lent, hI, hq⟩, hH3, hk3⟩
  have hl0 : lent = [] := by
    rw [List.eq_nil_iff_forall_not_mem]
    intro z hz
    obtain ⟨k, n, _, _, ht, _⟩ := (hI.lnt z).1 hz
    cases ht
  obtain ⟨rfl, hp⟩ := put_room hI (n := 0) (by decide) (.inl (by rw [hl0]; decide)) ⟨by decide, by rintro ⟨h, _⟩; omega, by omega, by omega⟩ hq
  obtain ⟨h1, h2, -, -⟩ := put_leads hp
  have hle : leads (T' 0) 70 = 195 := by
    have : leads (T' 0) 70 = leads (T' 0) 65 := by
      unfold leads
      rw [show 70 / 1024 = 65 / 1024 by decide, show 70 / 64 % 16 = 65 / 64 % 16 by decide]
    rw [this, h2]; decide
  have H3 := Lib.hid (And.intro hH3 (And.intro (H2.out.2.trans hk3) hle))
  clear hH3 hk3 hq hI hp h1 h2 hle hl0
  go_wp2_with fail
  refine (hb_root H3.out.1 (i := 1) (by simp)).mono ?_
  rintro e z3 ⟨rfl, hk3⟩
  have H4 := Lib.hid (And.intro (H3.out.1.keep0 hk3) (H3.out.2.1.trans (Keep.upTo hk3 (by simp))))
  clear hk3
  go_wp2_with fail
  refine (hb_look H4.out.1 (k := 0) (by decide) 70 (by omega)).mono ?_
  rintro e z4 ⟨hk4, hP⟩
  have hP2 : ∃ (a b c d t : Int), e = .returned (.tuple #[.agg #[.int .u32 a, .int .u32 b, .int .u32 c, .int .i64 d, .int .i64 t, .int .i64 3], .bool true]) := by
    rcases hP with ⟨h0, _⟩ | ⟨f, b, a, e1, d, t, h1, h2, h3, h4, h5⟩
    · have := H3.out.2.2; omega
    · have := H3.out.2.2
      obtain rfl : f = 3 := by omega
      exact ⟨_, _, _, _, _, h5⟩
  obtain ⟨a, b, c, d, t, rfl⟩ := hP2
  have HF := Lib.hid (KeepUp.nil (H4.out.2.trans (Keep.upTo hk4 (by simp))))
  clear hP hk4
  go_wp2_with fail
  go_ret
  exact ⟨rfl, HF.out.alloc _⟩
end Go.Proofs.Ytpinoejckagjbaa

/- Spaces that are not there; and what a key and a step that came in are. -/
namespace Go.Proofs.Ytpinoejckagjbaa
open Go.RowKit Go.Mum
set_option linter.unusedVariables false
set_option linter.unusedSimpArgs false
set_option maxRecDepth 100000

theorem key_of_cells {P : Program} {w : World} {B n : Nat} {cs : List Value} (hP : P = Try.prog) (h : Fits P w B n 70 cs) : ∃ a b : Nat, cs = [.int .u32 (a : Nat), .int .u32 (b : Nat)] ∧ a < 4294967296 ∧ b < 4294967296 := by
  subst hP
  obtain ⟨m, hl, hfs⟩ := h.struct Try.underlying70
  have q0 : Try.prog.cellsOf 70 = 2 := by kernel_rfl
  have q1 : Try.prog.cellsOf 22 = 1 := by kernel_rfl
  rw [q0] at hl
  match cs, hl with
  | [d0, d1], _ =>
    obtain ⟨z0, e0, g0⟩ := (hfs _ (.head _)).int Try.underlying22
    obtain ⟨z1, e1, g1⟩ := (hfs _ (.tail _ (.head _))).int Try.underlying22
    simp [q1] at e0 e1
    subst e0 e1
    have h0 := wf_u32 g0
    have h1 := wf_u32 g1
    exact ⟨z0.toNat, z1.toNat, by rw [Int.toNat_of_nonneg h0.1, Int.toNat_of_nonneg h1.1], by omega, by omega⟩

/-- The cells of a step. -/
def stC (kd : Int) (kp kr : Nat) (u : Bool) (va : Nat) (fr : Int) (bb : Nat) : List Value := [.int .i64 kd, .int .u32 (kp : Nat), .int .u32 (kr : Nat), .bool u, .int .u32 (va : Nat), .int .i64 fr, .int .u32 (bb : Nat)]
def StOk (kd : Int) (kp kr va : Nat) (fr : Int) (bb : Nat) : Prop := (-9223372036854775808 ≤ kd ∧ kd ≤ 9223372036854775807) ∧ kp < 4294967296 ∧ kr < 4294967296 ∧ va < 4294967296 ∧ (-9223372036854775808 ≤ fr ∧ fr ≤ 9223372036854775807) ∧ bb < 4294967296

theorem step_of_cells {w : World} {B n : Nat} {cs : List Value} (h : Fits Try.prog w B n 72 cs) : ∃ kd kp kr u va fr bb, cs = stC kd kp kr u va fr bb ∧ StOk kd kp kr va fr bb := by
  obtain ⟨m, hl, hfs⟩ := h.struct Try.underlying72
  have q0 : Try.prog.cellsOf 72 = 7 := by kernel_rfl
  have q1 : Try.prog.cellsOf 22 = 1 := by kernel_rfl
  have q2 : Try.prog.cellsOf 3 = 1 := by kernel_rfl
  have q3 : Try.prog.cellsOf 4 = 1 := by kernel_rfl
  have q4 : Try.prog.cellsOf 70 = 2 := by kernel_rfl
  rw [q0] at hl
  match cs, hl with
  | [d0, d1, d2, d3, d4, d5, d6], _ =>
    obtain ⟨z0, e0, g0⟩ := (hfs _ (.head _)).int Try.underlying3
    obtain ⟨kp, kr, e1, g1, g2⟩ := key_of_cells rfl (hfs _ (.tail _ (.head _)))
    obtain ⟨u, e3⟩ := (hfs _ (.tail _ (.tail _ (.head _)))).bool Try.underlying4
    obtain ⟨z4, e4, g4⟩ := (hfs _ (.tail _ (.tail _ (.tail _ (.head _))))).int Try.underlying22
    obtain ⟨z5, e5, g5⟩ := (hfs _ (.tail _ (.tail _ (.tail _ (.tail _ (.head _)))))).int Try.underlying3
    obtain ⟨z6, e6, g6⟩ := (hfs _ (.tail _ (.tail _ (.tail _ (.tail _ (.tail _ (.head _))))))).int Try.underlying22
    simp [q1, q2, q3, q4] at e0 e1 e3 e4 e5 e6
    obtain ⟨rfl, rfl⟩ := e1
    subst e0 e3 e4 e5 e6
    have h0 := wf_i64 g0
    have h4 := wf_u32 g4
    have h5 := wf_i64 g5
    have h6 := wf_u32 g6
    refine ⟨z0, kp, kr, u, z4.toNat, z5, z6.toNat, ?_, h0, g1, g2, by omega, h5, by omega⟩
    unfold stC
    rw [Int.toNat_of_nonneg h4.1, Int.toNat_of_nonneg h6.1]

/-- Spaces that are not there, and such as no call made. -/
def NoSp (x : World) (v : Value) : Prop := v = .pointer none ∨ ∃ q, v = .pointer (some ⟨q, 0, none⟩) ∧ x.cell? ⟨q, 0, none⟩ = some (.bool false)

theorem NoSp.keep {x y : World} {v : Value} (h : NoSp x v) (hk : Keep [] x y) : NoSp y v := by
  rcases h with h | ⟨q, h1, h2⟩
  · exact .inl h
  · exact .inr ⟨q, h1, hk.cell h2 (by simp)⟩

section
variable {x : World} {v : Value}

theorem none_no (h : NoSp x v) : Calls Try.prog 60 #[v] x fun e y => e = .returned (.bool true) ∧ x = y := by
  rcases h with rfl | ⟨q, rfl, hc⟩
  all_goals
    go_enter Try.func60, Try.ntmps60
    go_wp2_with fail
    go_ret
    exact ⟨rfl, rfl⟩

theorem clear_no (h : NoSp x v) : Calls Try.prog 42 #[v] x fun e y => (∃ u, e = .returned u) ∧ x = y := by
  have C := Lib.hid (none_no h)
  clear h
  go_enter Try.func42, Try.ntmps42
  go_wp2_with fail
  refine C.out.mono ?_
  rintro e y ⟨rfl, rfl⟩
  go_wp2_with fail
  (try simp only [Exit.inBlock, Exit.then])
  refine bodyPost_ret (results_none rfl _ _ _) rfl ?_
  exact ⟨⟨_, rfl⟩, rfl⟩

theorem counts_no (h : NoSp x v) : Calls Try.prog 41 #[v] x fun e y => e = .returned (.tuple #[.int .i64 0, .int .i64 0]) ∧ x = y := by
  have C := Lib.hid (none_no h)
  clear h
  go_enter Try.func41, Try.ntmps41
  go_wp2_with fail
  refine C.out.mono ?_
  rintro e y ⟨rfl, rfl⟩
  go_wp2_with fail
  go_ret2
  exact ⟨rfl, rfl⟩

theorem root_no (h : NoSp x v) : Calls Try.prog 33 #[v] x fun e y => e = .returned (.int .u32 0) ∧ x = y := by
  have C := Lib.hid (none_no h)
  clear h
  go_enter Try.func33, Try.ntmps33
  go_wp2_with fail
  refine C.out.mono ?_
  rintro e y ⟨rfl, rfl⟩
  go_wp2_with fail
  go_ret
  exact ⟨rfl, rfl⟩

set_option maxHeartbeats 4000000 in
theorem keys_no (h : NoSp x v) : Calls Try.prog 35 #[v] x fun e y => e = .returned (.slice none 0 0) ∧ Keep [] x y := by
  refine (callsIn_wide (n := 3)).1 ?_
  have C0 := Lib.hid (fun u (hu : Go.Mum.Keep [] x u) => none_no (h.keep hu))
  have hv : ∃ a, v = .pointer a := by
    rcases h with rfl | ⟨q, rfl, _⟩ <;> exact ⟨_, rfl⟩
  obtain ⟨a, rfl⟩ := hv
  clear h
  refine callsIn_of_wp_marks Try.func35 rfl trivial ?_ rfl
  simp only [Try.ntmps35, List.size_toArray, List.length_cons, List.length_nil, Nat.reduceAdd, Nat.reduceSub, Array.replicate_succ, Array.replicate_zero, List.push_toArray, List.append_toArray, List.nil_append, List.cons_append]
  gi_wp2_with (refine ⟨trivial, ?_⟩; gi_at_call 60; refine (callsIn_wide.2 (C0.out _ ((Go.Mum.Keep.refl [] x).alloc _))).mono ?_; rintro e w' ⟨rfl, rfl⟩)
  exact ⟨_, results_tmp rfl _ _ _, rfl, (Keep.refl _ _).alloc _⟩

theorem pages_no (h : NoSp x v) : Calls Try.prog 43 #[v] x fun e y => e = .returned (.slice none 0 0) ∧ x = y := by
  have C := Lib.hid (none_no h)
  clear h
  go_enter Try.func43, Try.ntmps43
  go_wp2_with fail
  refine C.out.mono ?_
  rintro e y ⟨rfl, rfl⟩
  go_wp2_with fail
  go_ret
  exact ⟨rfl, rfl⟩

theorem put_no (h : NoSp x v) (va frame bb : Int) : Calls Try.prog 32 #[v, .int .u32 va, .int .i64 frame, .int .u32 bb] x fun e y => e = .returned (.bool false) ∧ x = y := by
  have C := Lib.hid (none_no h)
  clear h
  go_enter Try.func32, Try.ntmps32
  go_wp2_with fail
  go_step3
  go_wp2_with fail
  refine C.out.mono ?_
  rintro e y ⟨rfl, rfl⟩
  go_wp2_with fail
  rw [Exit.noGoto_ret]
  go_ret
  exact ⟨rfl, rfl⟩

theorem put_off {q : Nat} (h0 : x.cell? ⟨q, 0, none⟩ = some (.bool true)) (h44 : x.cell? ⟨q, 44, none⟩ = some (.bool false)) (va frame bb : Int) : Calls Try.prog 32 #[.pointer (some ⟨q, 0, none⟩), .int .u32 va, .int .i64 frame, .int .u32 bb] x fun e y => e = .returned (.bool false) ∧ x = y := by
  go_enter Try.func32, Try.ntmps32
  go_wp2_with fail
  go_step3
  go_wp2_with fail
  refine (none_at h0).mono ?_
  rintro e y ⟨rfl, rfl⟩
  go_wp2_with fail
  rw [Exit.noGoto_ret]
  go_ret
  exact ⟨rfl, rfl⟩

theorem select_no (h : NoSp x v) (kp kr : Nat) (b : Bool) : Calls Try.prog 31 #[v, .agg #[.int .u32 kp, .int .u32 kr], .bool b] x fun e y => e = .returned (.bool false) ∧ Keep [] x y := by
  go_enter Try.func31, Try.ntmps31
  go_wp2_with fail
  refine (none_no (h.keep ((Keep.refl _ _).alloc _))).mono ?_
  rintro e y ⟨rfl, rfl⟩
  go_wp2_with fail
  go_ret
  exact ⟨rfl, (Keep.refl _ _).alloc _⟩

/-- No memory, or no pool. -/
theorem spnew_nil (s : Option Addr) (len cap : Nat) (v3 v4 : Value) : Calls Try.prog 34 #[.pointer none, .slice s len cap, v3, v4] x fun e y => e = .returned (.tuple #[.pointer none, .int .i64 1]) ∧ x = y := by
  have C0 := Lib.hid (rsize_any (w := x) (v := .pointer none) (n := 0) (.inl ⟨rfl, rfl⟩))
  go_enter Try.func34, Try.ntmps34
  go_wp2_with fail
  refine C0.out.mono ?_
  rintro e w' ⟨rfl, rfl⟩
  go_wp2_with fail
  go_ret2
  exact ⟨rfl, rfl⟩

theorem spnew_nopool {r fb g n : Nat} {L : List Int} (hR : RamAt x r fb g (List.range n) L) (s : Option Addr) (len cap : Nat) (v4 : Value) : Calls Try.prog 34 #[.pointer (some ⟨r, 0, none⟩), .slice s len cap, .pointer none, v4] x fun e y => e = .returned (.tuple #[.pointer none, .int .i64 1]) ∧ x = y := by
  have hsz := hR.sz
  rw [List.length_range] at hsz
  have hn := hR.size
  rw [List.length_range] at hn
  have C0 := Lib.hid (rsize_any hsz)
  have n0 : ¬ (64 * (n : Int) = 0) := by omega
  have n0' : ¬ (n = 0) := by omega
  clear hsz hR hn
  go_enter Try.func34, Try.ntmps34
  go_wp2_with fail
  refine C0.out.mono ?_
  rintro e w' ⟨rfl, rfl⟩
  go_wp2_with fail
  go_ret2
  exact ⟨rfl, rfl⟩
end
end Go.Proofs.Ytpinoejckagjbaa
