/- The law DevNone, walked. -/
import Derived.BigQuiet
import Derived.Outline
import Derived.Test.YtgeakpeaohggoaaM07
namespace Go.Proofs.Ytgeakpeaohggoaa
open Go.RowKit Go.Mum
set_option linter.unusedVariables false
set_option linter.unusedSimpArgs false
set_option maxRecDepth 100000

variable {w : World} {v : Value}

/-- The steps that came in. -/
structure StepsAt (w : World) (s : Option Addr) (len cap : Nat) : Prop where
  cap : len ≤ maxLen
  at' : len = 0 ∨ ∃ b off, s = some ⟨b, off, none⟩ ∧ ∀ i, i < len → ∃ (kd n : Int) (v : Nat), w.cell? ⟨b, off + i * 3, none⟩ = some (.int .i64 kd) ∧ w.cell? ⟨b, off + i * 3 + 1, none⟩ = some (.int .i64 n) ∧ w.cell? ⟨b, off + i * 3 + 2, none⟩ = some (.int .u32 (v : Nat)) ∧
    (-9223372036854775808 ≤ kd ∧ kd ≤ 9223372036854775807) ∧ (-9223372036854775808 ≤ n ∧ n ≤ 9223372036854775807) ∧ v < 4294967296

theorem steps_of_fits {w : World} {B m : Nat} {s : Option Addr} {len cap : Nat} (h : Fits Try.prog w B m 65 [.slice s len cap]) : StepsAt w s len cap := by
  rcases h.rows Try.underlying65 3 (by kernel_rfl) (by omega) with h | ⟨lb, off, mm, rfl, _, h1, h2, _, hlt, h3⟩
  · exact ⟨by unfold maxLen; omega, .inl h⟩
  · refine ⟨by omega, .inr ⟨lb, off, rfl, fun i hi => ?_⟩⟩
    obtain ⟨ds, hd, hc, hf⟩ := h3 i hi
    obtain ⟨m', hl, hfs⟩ := hf.struct Try.underlying77
    have q1 : Try.prog.cellsOf 33 = 1 := by kernel_rfl
    have q2 : Try.prog.cellsOf 3 = 1 := by kernel_rfl
    match ds, hd with
    | [d0, d1, d2], _ =>
      obtain ⟨z0, e0, g0⟩ := (hfs _ (.head _)).int Try.underlying3
      obtain ⟨z1, e1, g1⟩ := (hfs _ (.tail _ (.head _))).int Try.underlying3
      obtain ⟨z2, e2, g2⟩ := (hfs _ (.tail _ (.tail _ (.head _)))).int Try.underlying33
      simp [q1, q2] at e0 e1 e2
      subst e0 e1 e2
      have h0 := wf_i64 g0
      have h1' := wf_i64 g1
      have h2' := wf_u32 g2
      refine ⟨z0, z1, z2.toNat, ?_, ?_, ?_, h0, h1', by omega⟩
      · have := hc 0 (by omega); simpa using this
      · have := hc 1 (by omega); simpa using this
      · have := hc 2 (by omega); rw [Int.toNat_of_nonneg h2'.1]; simpa using this

/-- Devices that no call made. -/
def dvArr0 : Array Value := #[.int .u32 0, .int .u32 0, .slice none 0 0, .slice none 0 0, .int .u32 0, .int .u32 0, .int .u32 0, .int .u32 0, .int .u32 0, .int .u32 0, .bool false, .slice none 0 0, .slice none 0 0]

theorem build_dv0 (w : World) : (Instr.build 74 #[]).run Try.prog w = .ok (.agg dvArr0) w := by kernel_rfl

theorem nwrite_q (h : NoDv w v) (n : Int) (x : Nat) : Calls Try.prog 22 #[v, .int .i64 n, .int .u32 (x : Nat)] w fun e w' => e = .returned (.tuple #[]) ∧ w = w' := by
  have C0 := Lib.hid (dnone_yes h)
  clear h
  go_enter Try.func22, Try.ntmps22
  go_wp2_with (go_at_call 37; refine C0.out.mono ?_; rintro e w' ⟨rfl, rfl⟩)
  refine bodyPost_ret (results_none rfl _ _ _) rfl ?_
  exact ⟨rfl, rfl⟩

set_option maxHeartbeats 4000000 in
theorem DevNone_walk (s0 : Option Addr) (len0 cap0 n0 : Nat) (w : World) (w0 : Fits Try.prog w maxLen n0 65 [.slice s0 len0 cap0]) :
    Calls Try.prog 8 #[.slice s0 len0 cap0] w fun e w' => e = .returned (.bool true) ∧ Below w.heap.size w w' := by
  have HS := Lib.hid (steps_of_fits w0)
  clear w0
  go_enter Try.func8, Try.ntmps8
  go_wp2_with (refine wpList_build rfl 74 #[] rfl (.agg dvArr0) (by exact build_dv0 _) ?_)
  obtain ⟨bs, hbs⟩ : ∃ b, b = w.heap.size := ⟨_, rfl⟩
  rw [← hbs]
  generalize hy : World.alloc (World.alloc w _) _ = y2
  have H2 : Hid (y2.cell? ⟨bs, 10, none⟩ = some (.bool false) ∧ y2.cell? ⟨bs + 1, 0, none⟩ = some (.pointer none) ∧ y2.cell? ⟨bs + 1, 1, none⟩ = some (.pointer (some ⟨bs, 0, none⟩)) ∧ Keep [] w y2) := Lib.hid (by
    subst hy
    exact ⟨((Keep.refl [] _).alloc _).cell (cell_of (heap_alloc_at _ hbs) 10 rfl) (by simp), cell_of (heap_alloc_at _ (by simp [hbs])) 0 rfl, cell_of (heap_alloc_at _ (by simp [hbs])) 1 rfl, ((Keep.refl [] w).alloc _).alloc _⟩)
  clear hy hbs
  go_loopw [5, 6, 7, 8, 9, 10, 11] (fun kv _ _ _ _ _ _ wr => ∃ k : Nat, kv = .int .i64 k ∧ k ≤ 2 ∧ Hid (Keep [] y2 wr)) (fun kv _ _ _ _ _ _ _ => 2 - (intOf kv).toNat)
  case atStart => exact ⟨0, rfl, by omega, Lib.hid (Keep.refl _ _)⟩
  case round =>
    obtain ⟨k, rfl, hk, HK⟩ := hrel
    rename World => wo
    by_cases hk2 : k < 2
    · obtain ⟨v, hv, hN⟩ : ∃ v, y2.cell? ⟨bs + 1, k, none⟩ = some v ∧ NoDv y2 v := by
        rcases (by omega : k = 0 ∨ k = 1) with rfl | rfl
        · exact ⟨_, H2.out.2.1, .inl rfl⟩
        · exact ⟨_, H2.out.2.2.1, .inr ⟨_, rfl, H2.out.1⟩⟩
      have hvw := HK.out.cell hv (by simp)
      have HN := Lib.hid (fun z (hz : Keep [] y2 z) => hN.keep hz)
      have hk3 : decide ((k : Int) < 2) = true := decide_eq_true (by omega)
      clear hN
      go_wp2_with fail
      go_loopw [7, 8, 9, 10, 11] (fun jv _ _ _ _ wr => ∃ j : Nat, jv = .int .i64 j ∧ j ≤ len0 ∧ Hid (Keep [] y2 wr)) (fun jv _ _ _ _ _ => len0 - (intOf jv).toNat)
      case atStart => exact ⟨0, rfl, by omega, HK⟩
      case round =>
        obtain ⟨j, rfl, hj, HKj⟩ := hrel
        have hvx := HKj.out.cell hv (by simp)
        have hcap := HS.out.cap
        have hcap' : len0 ≤ 9223372036854775807 := by unfold maxLen at hcap; omega
        by_cases hjl : j < len0
        · have j1 : decide ((j : Int) < (len0 : Int)) = true := decide_eq_true (by omega)
          obtain hz | ⟨lb, off, rfl, hst⟩ := HS.out.at'
          · omega
          by_cases hj20 : j < 20
          · have j2 : decide ((j : Int) < 20) = true := decide_eq_true (by omega)
            obtain ⟨kd, n, x, s1, s2, s3, b1, b2, b3⟩ := hst j hjl
            have hKw := H2.out.2.2.2.trans HKj.out
            have t1 := hKw.cell s1 (by simp)
            have t2 := hKw.cell s2 (by simp)
            have t3 := hKw.cell s3 (by simp)
            clear s1 s2 s3 hst hKw
            have HQ := Lib.hid (fun q => nwrite_q (HN.out _ (HKj.out.drewN q)) n x)
            go_wp2_with fail
            refine (ntaken_at (HN.out _ HKj.out) n).mono ?_
            rintro e z ⟨⟨u0, rfl⟩, rfl⟩
            go_wp2_with fail
            go_quiet ((go_at_call 22; exact quiet_same (HQ.out _)))
            go_wp2_with fail
            have hD := HKj.out.drewN nq
            have t2 := ((Keep.refl [] z).drewN nq).cell t2 (by simp)
            have t3 := ((Keep.refl [] z).drewN nq).cell t3 (by simp)
            generalize World.drewN z nq = z1 at hD t2 t3 ⊢
            have HD := Lib.hid hD
            clear hD
            refine (nnext_at (HN.out _ HD.out) n).mono ?_
            rintro e z2 ⟨rfl, rfl⟩
            go_wp2_with fail
            refine (ncome_at (HN.out _ HD.out) n).mono ?_
            rintro e z3 ⟨rfl, hz3⟩
            have HE := Lib.hid (HD.out.trans hz3)
            have t4 := hz3.cell t2 (by simp)
            have t5 := hz3.cell t3 (by simp)
            clear hz3
            go_wp2_with (first
              | (go_at_call 26; refine (nwants_at (HN.out _ HE.out) x).mono ?_; rintro e z4 ⟨rfl, rfl⟩)
              | (go_at_call 13; refine (nin_at (HN.out _ HE.out) n).mono ?_; rintro e z4 ⟨rfl, rfl⟩)
              | (go_at_call 14; refine (nread_at (HN.out _ HE.out) n).mono ?_; rintro e z4 ⟨rfl, rfl⟩)
              | (go_at_call 28; refine (nout_at (HN.out _ HE.out)).mono ?_; rintro e z4 ⟨rfl, rfl⟩)
              | (go_at_call 25; refine (ndisk_at (HN.out _ HE.out)).mono ?_; rintro e z4 ⟨rfl, rfl⟩)
              | (go_at_call 29; refine (ncopy_at (HN.out _ HE.out)).mono ?_; rintro e z4 ⟨rfl, rfl⟩))
            exact ⟨⟨j + 1, by go_num, by omega, HE⟩, by simp [intOf]; omega⟩
          · have j2 : decide ((j : Int) < 20) = false := decide_eq_false (by omega)
            go_wp2_with fail
            exact ⟨⟨k + 1, by go_num, by omega, HKj⟩, by simp [intOf]; omega⟩
        · have j1 : decide ((j : Int) < (len0 : Int)) = false := decide_eq_false (by omega)
          go_wp2_with fail
          exact ⟨⟨k + 1, by go_num, by omega, HKj⟩, by simp [intOf]; omega⟩
    · have hk3 : decide ((k : Int) < 2) = false := decide_eq_false (by omega)
      go_wp2_with (go_at_call 15; refine (works_at _).mono ?_; rintro e z ⟨rfl, hz⟩)
      go_ret
      exact ⟨rfl, ((H2.out.2.2.2.trans HK.out).trans hz).below (Nat.le_refl _) (by simp)⟩

end Go.Proofs.Ytgeakpeaohggoaa
