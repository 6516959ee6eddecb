/- The law ShadowPlays, walked. -/
import Derived.Test.YtpinoejckagjbaaSd9
import Derived.Test.YtpinoejckagjbaaFits
import Derived.Test.YtpinoejckagjbaaHeld
import Derived.BigQuiet
import Derived.Outline
namespace Go.Proofs.Ytpinoejckagjbaa
open Go.RowKit Go.Mum
set_option linter.unusedVariables false
set_option linter.unusedSimpArgs false
set_option maxRecDepth 100000

/-- Words that came in. -/
def WordsIn (w : World) (s : Option Addr) (len : Nat) : Prop :=
  len = 0 ∨ ∃ lb off, s = some ⟨lb, off, none⟩ ∧ len ≤ 9223372036854775807 ∧ ∀ i, i < len → ∃ va : Nat, va < 4294967296 ∧ w.cell? ⟨lb, off + i, none⟩ = some (.int .u32 va)

theorem words_of_fits {w : World} {B n : Nat} {s : Option Addr} {len cap : Nat} (h : Fits Try.prog w B n 44 [.slice s len cap]) : WordsIn w s len := by
  rcases h.rows Try.underlying44 1 (by kernel_rfl) (by omega) with h | ⟨lb, off, mm, rfl, _, h1, h2, _, hlt, h3⟩
  · exact .inl h
  · refine .inr ⟨lb, off, rfl, by unfold maxLen at h2; omega, fun i hi => ?_⟩
    obtain ⟨ds, hd, hc, hf⟩ := h3 i hi
    match ds, hd with
    | [d], _ =>
      obtain ⟨z0, e0, g0⟩ := hf.int Try.underlying22
      have q1 : Try.prog.cellsOf 22 = 1 := by kernel_rfl
      simp [q1] at e0
      subst e0
      have h0 := wf_u32 g0
      have h4 := hc 0 (by simp)
      refine ⟨z0.toNat, by omega, ?_⟩
      rw [Int.toNat_of_nonneg h0.1]
      simpa using h4

theorem quiet_left {p pm : Nat} {first n : Int} {s : List Int} {tk sh : Int} {w : World} {k : Nat} (h : PoolAt w p pm first n s tk sh) (hn : 0 ≤ n) (hn' : n ≤ 512) (hs : s.length ≤ 100000) :
    Calls Try.prog 24 #[.pointer (some ⟨p, 0, none⟩)] (w.drewN k) fun e w'' => e = .returned (.int .i64 (n - s.length)) ∧ ∃ m, w'' = w.drewN m :=
  (pleft_at (h.keep ((Keep.refl [] w).drewN k) (by simp) (by simp)) hn hn' hs).mono fun e w'' ⟨he, m, hm⟩ => ⟨he, k + m, by rw [hm, World.drewN_drewN]⟩

/-- A way's block. -/
def WayB (w : World) (m : Nat) (v0 v1 v2 v3 v4 v5 : Value) : Prop := w.heap[m]? = some (.cells #[v0, v1, v2, v3, v4, v5] 36 (0, 0))
def way6 (w : World) (m : Nat) (v0 v1 v2 v3 v4 v5 : Value) : World := (((((w.setCell ⟨m, 0, none⟩ v0).setCell ⟨m, 1, none⟩ v1).setCell ⟨m, 2, none⟩ v2).setCell ⟨m, 3, none⟩ v3).setCell ⟨m, 4, none⟩ v4).setCell ⟨m, 5, none⟩ v5
theorem WayB.put {w : World} {m : Nat} {v0 v1 v2 v3 v4 v5 : Value} (h : WayB w m v0 v1 v2 v3 v4 v5) (u0 u1 u2 u3 u4 u5 : Value) : WayB (way6 w m u0 u1 u2 u3 u4 u5) m u0 u1 u2 u3 u4 u5 := by
  have h0 := heap_set_same h 0 u0
  have h1 := heap_set_same h0 1 u1
  have h2 := heap_set_same h1 2 u2
  have h3 := heap_set_same h2 3 u3
  have h4 := heap_set_same h3 4 u4
  exact heap_set_same h4 5 u5
theorem WayB.facts {w : World} {m : Nat} {v0 v1 v2 v3 v4 v5 : Value} (h : WayB w m v0 v1 v2 v3 v4 v5) : (w.cell? ⟨m, 0, none⟩ = some v0 ∧ w.cell? ⟨m, 1, none⟩ = some v1 ∧ w.cell? ⟨m, 2, none⟩ = some v2 ∧ w.cell? ⟨m, 3, none⟩ = some v3 ∧ w.cell? ⟨m, 4, none⟩ = some v4 ∧ w.cell? ⟨m, 5, none⟩ = some v5) ∧
    (w.frozen? ⟨m, 0, none⟩ = false ∧ w.frozen? ⟨m, 1, none⟩ = false ∧ w.frozen? ⟨m, 2, none⟩ = false ∧ w.frozen? ⟨m, 3, none⟩ = false ∧ w.frozen? ⟨m, 4, none⟩ = false ∧ w.frozen? ⟨m, 5, none⟩ = false) :=
  ⟨⟨cell_of h 0 rfl, cell_of h 1 rfl, cell_of h 2 rfl, cell_of h 3 rfl, cell_of h 4 rfl, cell_of h 5 rfl⟩, ⟨frozen_of h 0, frozen_of h 1, frozen_of h 2, frozen_of h 3, frozen_of h 4, frozen_of h 5⟩⟩
def Way6 (w : World) (m : Nat) : Prop := ∃ v0 v1 v2 v3 v4 v5, WayB w m v0 v1 v2 v3 v4 v5
theorem Way6.keep {w x : World} {m : Nat} (h : Way6 w m) (hk : Keep [] w x) : Way6 x m := by
  obtain ⟨v0, v1, v2, v3, v4, v5, h⟩ := h
  exact ⟨v0, v1, v2, v3, v4, v5, hk.heap h (by simp)⟩
theorem way6_keep {w x : World} {m : Nat} {v0 v1 v2 v3 v4 v5 : Value} (h : Keep [] w x) (hm : w.heap.size ≤ m) : Keep [] w (way6 x m v0 v1 v2 v3 v4 v5) := keep_six h hm

def LookC (r no : Nat) (x : World) (wv : Value) (b : Bool) : Prop := Calls Try.prog 15 #[.pointer (some ⟨r, 0, none⟩), .int .u32 512, .int .i64 32, .int .u32 no] x (fun e w' => e = .returned (.tuple #[wv, .bool b]) ∧ Keep [] x w')

set_option maxHeartbeats 8000000 in
theorem ShadowPlays_walk (a0 : Int) (s1 : Option Addr) (len1 cap1 n1 : Nat) (s2 : Option Addr) (len2 cap2 n2 : Nat) (w : World) (w0 : (Lit.int .u8 a0).wf = true) (w1 : Fits Try.prog w maxLen n1 25 [.slice s1 len1 cap1]) (w2 : Fits Try.prog w maxLen n2 44 [.slice s2 len2 cap2]) :
    Calls Try.prog 6 #[.int .u8 a0, .slice s1 len1 cap1, .slice s2 len2 cap2] w fun e w' => e = .returned (.bool true) ∧ Below w.heap.size w w' := by
  have HM := Lib.hid (steps_of_fits w1)
  have HW := Lib.hid (words_of_fits w2)
  clear w1 w2
  have b0 := wf_u8 w0
  obtain ⟨mo, rfl⟩ : ∃ m : Nat, a0 = (m : Int) := ⟨a0.toNat, by omega⟩
  have hmo : mo < 256 := by omega
  obtain ⟨most, hms⟩ : ∃ m, m = mo % 13 := ⟨_, rfl⟩
  have t1 : ((mo : Int)).tmod 13 = (most : Int) := by rw [Int.tmod_eq_emod_of_nonneg (by omega)]; omega
  have u1 : (mo : Int) % 13 = (most : Int) := by omega
  have t2 : IntKind.i64.wrap (most : Int) = (most : Int) := IntWalk.i64_in _ (by omega)
  have hm12 : most ≤ 12 := by omega
  clear w0 b0
  go_enter Try.func6, Try.ntmps6
  go_wp2_with fail
  refine (smade_at mo hmo _).mono ?_
  rw [← hms]
  rintro e y1 ⟨r, fb, g, s, p, pm, rfl, hS, hk, hn⟩
  obtain ⟨wb, hwb⟩ : ∃ wb, wb = y1.heap.size := ⟨_, rfl⟩
  have H0 : Hid (Two (y1.alloc (.cells #[.int .i64 40, .slice none 0 0, .slice none 0 0, .int .i64 most] 46)) w.heap.size s r fb g p pm wb most (fun _ => tab0) memL0 [] [] 0 ∧ Agree (fun _ => tab0) [] [] ∧ KeepUp w.heap.size w (y1.alloc (.cells #[.int .i64 40, .slice none 0 0, .slice none 0 0, .int .i64 most] 46))) := Lib.hid ⟨by
    rw [hwb]; exact two_start hS (by omega), agree_start, Keep.upTo (hk.alloc _) (by simp)⟩
  clear hS hk hn hms
  go_wp2_with fail
  rw [← hwb]
  generalize World.alloc y1 _ = y2 at *
  clear hwb
  go_loopw [11] (fun kv wr => ∃ (k : Nat) (T : Nat → Tab) (L : List Int) (ps : List Pg) (ts : List Nat), kv = .int .i64 k ∧ k ≤ len1 ∧ k ≤ 60 ∧ Hid (Two wr w.heap.size s r fb g p pm wb most T L ps ts k ∧ Agree T ps ts ∧ KeepUp w.heap.size w wr)) (fun kv _ => 60 - (intOf kv).toNat)
  case atStart => exact ⟨0, _, _, _, _, rfl, by omega, by omega, H0⟩
  case round =>
    clear H0
    obtain ⟨k, T, L, ps, ts, rfl, hk1, hk2, HR⟩ := hrel
    rename World => wo
    by_cases hlt : k < len1 ∧ k < 60
    · obtain ⟨hl1, hl2⟩ := hlt
      obtain ⟨lb, off, rfl, hl64, kd, fr, va, bb, g1, g2, g3, g4, d0, d1, d2, d3⟩ : ∃ lb off, s1 = some ⟨lb, off, none⟩ ∧ len1 ≤ 9223372036854775807 ∧ ∃ (kd fr : Int) (va bb : Nat), (-9223372036854775808 ≤ kd ∧ kd ≤ 9223372036854775807) ∧ (-9223372036854775808 ≤ fr ∧ fr ≤ 9223372036854775807) ∧ va < 4294967296 ∧ bb < 4294967296 ∧
    wo.cell? ⟨lb, off + k * 4, none⟩ = some (.int .i64 kd) ∧ wo.cell? ⟨lb, off + k * 4 + 1, none⟩ = some (.int .u32 va) ∧ wo.cell? ⟨lb, off + k * 4 + 2, none⟩ = some (.int .i64 fr) ∧ wo.cell? ⟨lb, off + k * 4 + 3, none⟩ = some (.int .u32 bb) := by
        rcases HM.out with h | ⟨lb, off, h1, h2, h3⟩
        · omega
        · obtain ⟨kd, fr, va, bb, g1, g2, g3, g4, d0, d1, d2, d3⟩ := h3 k hl1
          have hb := World.block_lt_of_cell? w _ d0
          exact ⟨lb, off, h1, h2, kd, fr, va, bb, g1, g2, g3, g4, HR.out.2.2.cell d0 (by simp at hb; omega), HR.out.2.2.cell d1 (by simp at hb; omega), HR.out.2.2.cell d2 (by simp at hb; omega), HR.out.2.2.cell d3 (by simp at hb; omega)⟩
      have hi0 : (0 : Int) ≤ (k : Int) := by omega
      have hi1 : (k : Int) < (len1 : Int) := by omega
      have hi2 : (k : Int) < 60 := by omega
      go_wp2_with fail
      refine (sdo_at HR.out.1 (by omega) (by have := HR.out.2.2; obtain ⟨l, _, hk⟩ := this; exact hk.size) kd fr va bb g3 g4 g2.1 g2.2 g1.1 g1.2).mono ?_
      rintro e z ⟨q, T', L', ps', ts', rfl, hst, hT, hK⟩
      obtain ⟨rfl, hA⟩ := agree_step HR.out.2.1 HR.out.1.sat.inv hT.sat.inv hst
      have HN := Lib.hid (And.intro hT (And.intro hA (HR.out.2.2.trans hK)))
      clear hT hK hst hA
      go_wp2_with fail
      go_roundw
      case rel => exact ⟨k + 1, T', L', ps', ts', by go_num, by omega, by omega, HN⟩
      case measure => simp [intOf]; omega
    · have hex : ¬ ((k : Int) < (len1 : Int)) ∨ (k : Int) < (len1 : Int) ∧ ¬ ((k : Int) < 60) := by omega
      have hI := HR.out.1.sat.inv
      have h32 : ∀ n, n < 32 → ∀ k, k < 16 → (T n).en k < 4294967296 := fun n hn k hk => by
        rcases hI.ent n hn k hk with h | ⟨f, b, h1, h2, _, h⟩ <;> omega
      have CP := Lib.hid (spages_at (each_at HR.out.1.sat.sh h32) HR.out.1.sat.sh.heads.1)
      have hps := HR.out.1.psl
      have hts := HR.out.1.tsl
      have HPL : Hid (plV (tabE T) 512 = ps.map (fun q => ((q.1 : Nat) : Int))) := Lib.hid (by rw [plV_pages, ← HR.out.2.1.pg])
      rw [HPL.out] at CP
      clear hlt h32 hI HPL
      rcases hex with h1 | ⟨h1, h1'⟩
      all_goals
        go_wp2_with fail
        refine CP.out.mono ?_
        rintro e z ⟨v, rfl, hown, hB⟩
        have hkz : Keep [] wo z := below_keep hB (Nat.le_refl _)
        obtain ⟨va1, vc1, rfl⟩ := own_form hown
        rw [List.length_map] at hown ⊢
        have H1 : Hid (Two z w.heap.size s r fb g p pm wb most T L ps ts k ∧ Agree T ps ts ∧ KeepUp w.heap.size w z ∧ z.ownsRow wo.heap.size 22 1 (.slice va1 ps.length vc1) ps.length ((ps.map (fun q => ((q.1 : Nat) : Int))).map (Value.int .u32))) := Lib.hid ⟨HR.out.1.keep0 hkz, HR.out.2.1, HR.out.2.2.trans (Keep.upTo hkz (by simp)), hown⟩
        clear hown hB hkz CP HM
        obtain ⟨pv, tv, hrs⟩ := H1.out.1.rs
        obtain ⟨pa, pc, hpv⟩ := own_form hrs.prow
        obtain ⟨ta, tc, htv⟩ := own_form hrs.trow
        subst hpv htv
        obtain ⟨c0, c1, c2, c3⟩ := hrs.cells
        obtain ⟨lent, tk, sh, hpool, hb, hz⟩ := H1.out.1.sat.pool
        have hll := H1.out.2.1.lent H1.out.1.sat.inv (setNodup hpool.2) hz
        have HPOOL := Lib.hid hpool
        have hcnt := H1.out.2.1.count
        have CT : Hid (∀ d, Calls Try.prog 25 #[.pointer (some ⟨s, 0, none⟩)] (z.drewN d) fun e w' => e = .returned (.int .i64 (ts.length : Nat)) ∧ z.drewN d = w') := Lib.hid (fun d => by
          have := stables_at (H1.out.1.sat.sh.keep ((Keep.refl [] z).drewN d) (by simp))
          unfold cntT at this
          rw [hcnt] at this
          exact this)
        have w1 : IntKind.i64.wrap ((most : Int) - (ts.length : Int)) = (most : Int) - (ts.length : Int) := IntWalk.i64_in _ (by omega)
        have hll' : (lent.length : Int) = (ts.length : Int) := by omega
        have w2 : (most : Int) - (lent.length : Int) = (most : Int) - (ts.length : Int) := by omega
        have CL : Hid (∀ d, Calls Try.prog 24 #[.pointer (some ⟨p, 0, none⟩)] (z.drewN d) fun e w'' => e = .returned (.int .i64 ((most : Int) - (ts.length : Int))) ∧ ∃ m, w'' = z.drewN m) := Lib.hid (fun d => by
          rw [← w2]
          exact quiet_left HPOOL.out (by omega) (by omega) (by omega))
        have HRS := Lib.hid hrs
        clear hrs hpool hb hz hll hcnt hll' w2 HPOOL
        go_wp2_with fail
        go_quiet (first | (go_at_call 24; exact CL.out _) | (go_at_call 25; exact quiet_same (CT.out _)))
        generalize hz2 : World.drewN z _ = z2
        have HA : Hid (∀ x, Keep [] z2 x → Two x w.heap.size s r fb g p pm wb most T L ps ts k ∧ RS x wb most ps ts (.slice pa ps.length pc) (.slice ta ts.length tc) ∧ x.ownsRow wo.heap.size 22 1 (.slice va1 ps.length vc1) ps.length ((ps.map (fun q => ((q.1 : Nat) : Int))).map (Value.int .u32)) ∧ KeepUp w.heap.size w x) := Lib.hid (fun x hk => by
          have hk' : Keep [] z x := by subst hz2; exact ((Keep.refl [] z).drewN _).trans hk
          exact ⟨H1.out.1.keep0 hk', HRS.out.keep hk' (by simp), own_keep H1.out.2.2.2 hk' (by simp), H1.out.2.2.1.trans (Keep.upTo hk' (by simp))⟩)
        have HAG := Lib.hid H1.out.2.1
        clear hz2 CT CL HRS H1 c0 c1 c2 c3 w1 HR
        obtain ⟨d0, d1, d2, d3⟩ := (HA.out z2 (Keep.refl _ _)).2.1.cells
        go_wp2_with fail
        go_loopw [13] (fun kv wr => ∃ j : Nat, kv = .int .i64 j ∧ j ≤ ts.length ∧ z2 = wr) (fun kv _ => ts.length - (intOf kv).toNat)
        case atStart => exact ⟨0, rfl, by omega, rfl⟩
        case round =>
          obtain ⟨j, rfl, hj, rfl⟩ := hrel
          by_cases hjl : j < ts.length
          · obtain ⟨gt, rfl, hg⟩ := own_some (HA.out z2 (Keep.refl _ _)).2.1.trow (by omega)
            have hgk := hg j (by omega)
            rw [List.getElem?_map, List.getElem?_eq_getElem hjl] at hgk
            replace hgk : z2.cell? ⟨gt, j, none⟩ = some (.int .u32 (ts[j] : Nat)) := hgk
            have hmem := (HAG.out.mem ts[j]).1 (List.getElem_mem hjl)
            generalize ts[j] = tj at hgk hmem
            have hj0 : (0 : Int) ≤ (j : Int) := by omega
            have hj1 : (j : Int) < (ts.length : Int) := by omega
            have tj32 := hmem.1
            have CH := shas_at (HA.out z2 (Keep.refl _ _)).1.sat.sh (tj * 1024 + 5) (by omega)
            rw [show hasB T (tj * 1024 + 5) = true by unfold hasB; rw [show (tj * 1024 + 5) / 1024 = tj by omega, hmem.2]; simp; exact tj32, show ((tj * 1024 + 5 : Nat) : Int) = (tj : Int) * 1024 + 5 by omega] at CH
            have CH := Lib.hid CH
            clear hg hmem hj
            go_wp2_with fail
            refine CH.out.mono ?_
            rintro e z3 ⟨rfl, rfl⟩
            go_wp2_with fail
            go_roundw
            case rel => exact ⟨j + 1, by go_num, by omega, trivial⟩
            case measure => simp [intOf]; omega
          · have hj1 : ¬ ((j : Int) < (ts.length : Int)) := by omega
            clear hj hjl
            go_wp2_with fail
            clear d2 d3
            go_loopw [14, 15, 16, 17] (fun kv xv yv iv wr => ∃ (j : Nat) (x y i : Value), kv = .int .i64 j ∧ xv = x ∧ yv = y ∧ iv = i ∧ j ≤ ps.length ∧ Hid (Keep [] z2 wr)) (fun kv _ _ _ _ => ps.length - (intOf kv).toNat)
            case atStart => exact ⟨0, _, _, _, rfl, rfl, rfl, rfl, by omega, Lib.hid (Keep.refl _ _)⟩
            case round =>
              clear d0 d1
              obtain ⟨j, x0, y0, i0, rfl, rfl, rfl, rfl, hj, HK⟩ := hrel
              rename World => wq
              have hall := HA.out wq HK.out
              obtain ⟨d0, d1, d2, d3⟩ := hall.2.1.cells
              by_cases hjl : j < ps.length
              · obtain ⟨gt, rfl, hg⟩ := own_some hall.2.1.prow (by omega)
                obtain ⟨gp, rfl, hgp⟩ := own_some hall.2.2.1 (by omega)
                have hq0 := hg (j * 3 + 0) (by omega)
                have hq1 := hg (j * 3 + 1) (by omega)
                have hq2 := hg (j * 3 + 2) (by omega)
                have hp0 := hgp j (by omega)
                rw [pgL_get ps j hjl _ (by omega)] at hq0 hq1 hq2
                rw [List.getElem?_map, List.getElem?_map, List.getElem?_eq_getElem hjl] at hp0
                have hpg := HAG.out.page hall.1.sat.inv (List.getElem_mem hjl)
                obtain ⟨q, hq⟩ : ∃ q, q = ps[j] := ⟨_, rfl⟩
                rw [← hq] at hq0 hq1 hq2 hp0 hpg
                obtain ⟨qa, qf, qb⟩ := q
                replace hq0 : wq.cell? ⟨gt, j * 3, none⟩ = some (.int .u32 (qa : Nat)) := hq0
                replace hq1 : wq.cell? ⟨gt, j * 3 + 1, none⟩ = some (.int .i64 (qf : Nat)) := hq1
                replace hq2 : wq.cell? ⟨gt, j * 3 + 2, none⟩ = some (.int .u32 (qb : Nat)) := hq2
                replace hp0 : wq.cell? ⟨gp, j, none⟩ = some (.int .u32 (qa : Nat)) := hp0
                simp only at hpg
                have hlk : ∃ e d t, lookF (rdOf 40 L) 40 512 32 (qa + 5) = some (qb, 64 * qf + (qa + 5) % 64, e, d, t, qf) := by
                  rcases look_sh hall.1.sat.inv (qa + 5) with ⟨h0, _⟩ | ⟨f, b, h1, h2, h3, h4, e, d, t, h5⟩
                  · exact absurd h0 hpg.2.2.2.2.2
                  · obtain rfl : f = qf := by omega
                    obtain rfl : b = qb := by omega
                    exact ⟨e, d, t, h5⟩
                obtain ⟨e', d', t', hle⟩ := hlk
                obtain ⟨ay, hay⟩ : ∃ a, a = 64 * qf + (qa + 5) % 64 := ⟨_, rfl⟩
                rw [← hay] at hle
                have CLK : Hid (∀ x, Keep [] z2 x → Calls Try.prog 15 #[.pointer (some ⟨r, 0, none⟩), .int .u32 512, .int .i64 32, .int .u32 ((qa : Int) + 5)] x (fun e w' => e = .returned (.tuple #[.agg #[.int .u32 qb, .int .u32 ay, .int .u32 e', .int .i64 d', .int .i64 t', .int .i64 qf], .bool true]) ∧ Keep [] x w')) := Lib.hid (fun x hk => by
                  have := look_at (HA.out x hk).1.sat.mem 512 32 (qa + 5) (by omega) (by omega) (by omega)
                  rw [hle] at this
                  exact this)
                have CRT : Hid (∀ x, Keep [] z2 x → Calls Try.prog 16 #[.pointer (some ⟨s, 0, none⟩)] x (fun e w' => e = .returned (.int .u32 512) ∧ x = w')) := Lib.hid (fun x hk => by
                  have h := (HA.out x hk).1.sat.sh.heads
                  exact sroot_at (dir := 8) h.1 h.2.2.1 (by omega))
                have hj0 : (0 : Int) ≤ (j : Int) := by omega
                have hj1' : (j : Int) < (ps.length : Int) := by omega
                have w5 : IntKind.u32.wrap ((qa : Int) + 5) = (qa : Int) + 5 := IntWalk.u32_in _ (by omega)
                have HJ := Lib.hid hjl
                clear hg hgp hq hpg hle hay hall hj hjl d0 d2 d3
                go_wp2_with fail
                obtain ⟨bx, hbx⟩ : ∃ b, b = wq.heap.size := ⟨_, rfl⟩
                rw [← hbx]
                generalize hyx : World.alloc wq _ = yx
                have HX : Hid (Keep [] wq yx ∧ yx.heap[bx]? = some (.cells #[.int .u32 qa, .int .i64 qf, .int .u32 qb] 65 (0, 0)) ∧ bx = wq.heap.size) := Lib.hid (by
                  subst hyx
                  exact ⟨(Keep.refl [] wq).alloc _, heap_alloc_at _ hbx, hbx⟩)
                clear hyx hbx hq0 hq1 hq2
                have hb0 : yx.cell? ⟨bx, 0, none⟩ = some (.int .u32 qa) := cell_of HX.out.2.1 0 rfl
                have HKX : Hid (∀ x, Keep [] yx x → Keep [] z2 x) := Lib.hid (fun x hk => HK.out.trans (HX.out.1.trans hk))
                go_wp2_with fail
                refine wp_region_held_drew (S := fun x => x.cell? ⟨bx, 0, none⟩ = some (.int .u32 qa) ∧ Keep [] yx x) (by kernel_rfl) ⟨hb0, (Keep.refl [] yx).drew⟩ (fun hHeld => ?_)
                skip
                generalize World.drew yx = yd at hHeld ⊢
                refine wpAnyH_take (i := 0) (oi := { dst := some 125, op := Op.move (Operand.tmp 7), type := 26, pos := "law.go:103", after := #[], guard := none }) (v := ?_) rfl (by kernel_rfl) (by kernel_rfl) (by kernel_rfl) (fun _ _ _ h => h) (Or.inl ⟨by rfl, ?_⟩) (by assumption) ?_
                rotate_left
                focus (intro w hSw; (try dsimp only at hSw); go_simp <;> with_reducible rfl)
                try simp only [Act.put, List.setIfInBounds_toArray, List.set_cons_zero, List.set_cons_succ]
                refine wpAnyH_take (i := 1) (oi := { dst := some 126, op := Op.move (Operand.tmp 8), type := 27, pos := "law.go:103", after := #[], guard := none }) (v := ?_) rfl (by kernel_rfl) (by kernel_rfl) (by kernel_rfl) (fun _ _ _ h => h) (Or.inl ⟨by rfl, ?_⟩) (by assumption) ?_
                rotate_left
                focus (intro w hSw; (try dsimp only at hSw); go_simp <;> with_reducible rfl)
                try simp only [Act.put, List.setIfInBounds_toArray, List.set_cons_zero, List.set_cons_succ]
                refine wpAnyH_take (i := 3) (oi := { dst := some 128, op := Op.fieldAddr 65 (Operand.tmp 15) 0, type := 0, pos := "law.go:103", after := #[], guard := none }) (v := ?_) rfl (by kernel_rfl) (by kernel_rfl) (by kernel_rfl) (fun _ _ _ h => h) (Or.inl ⟨by rfl, ?_⟩) (by assumption) ?_
                rotate_left
                focus (intro w hSw; (try dsimp only at hSw); go_simp <;> with_reducible rfl)
                try simp only [Act.put, List.setIfInBounds_toArray, List.set_cons_zero, List.set_cons_succ]
                refine wpAnyH_take (i := 4) (oi := { dst := some 129, op := Op.load 22 (Operand.tmp 128), type := 22, pos := "law.go:103", after := #[{ on := 3, ground := Ground.data }], guard := none }) (v := ?_) rfl (by kernel_rfl) (by kernel_rfl) (by kernel_rfl) (fun _ _ _ h => h) (Or.inl ⟨by rfl, ?_⟩) (by assumption) ?_
                rotate_left
                focus (intro w hSw; (try dsimp only at hSw); go_simp <;> with_reducible rfl)
                try simp only [Act.put, List.setIfInBounds_toArray, List.set_cons_zero, List.set_cons_succ]
                refine wpAnyH_take (i := 5) (oi := { dst := some 130, op := Op.binOp BinOp.add 22 (Operand.tmp 129) (Operand.const (Value.int IntKind.u32 5)) 22, type := 22, pos := "law.go:103", after := #[{ on := 4, ground := Ground.data }], guard := none }) (v := ?_) rfl (by kernel_rfl) (by kernel_rfl) (by kernel_rfl) (fun _ _ _ h => h) (Or.inl ⟨by rfl, ?_⟩) (by assumption) ?_
                rotate_left
                focus (intro w hSw; (try dsimp only at hSw); go_simp <;> with_reducible rfl)
                try simp only [Act.put, List.setIfInBounds_toArray, List.set_cons_zero, List.set_cons_succ]
                refine wpAnyH_ready (rs := [2, 10]) (by kernel_rfl) (by simp) ?_
                refine AllReadyH.cons (o := { dst := some 127, op := Op.call { callee := Callee.value (Operand.func 16), args := #[Operand.tmp 126], argTypes := #[27] }, type := 22, pos := "law.go:103", after := #[{ on := 1, ground := Ground.data }], guard := none }) rfl (fun K hK => ?_) (AllReadyH.cons (o := { dst := some 16, op := Op.alloc 36, type := 0, pos := "law.go:103", after := #[], guard := none }) rfl (fun K hK => ?_) AllReadyH.nil)
                all_goals go_simp
                · refine (CRT.out _ (HKX.out _ hHeld.2)).mono ?_
                  rintro e u1 ⟨rfl, rfl⟩
                  go_wp2_with fail
                  refine shut_grow (fun x => x.cell? ⟨bx, 0, none⟩ = some (.int .u32 qa) ∧ Keep [] yx x) hK (fun _ h => h) hHeld (fun hHeld => ?_)
                  clear hK K
                  refine wpAnyH_ready (rs := [6, 10]) (by kernel_rfl) (by simp) ?_
                  refine AllReadyH.cons (o := { dst := some 131, op := Op.call { callee := Callee.value (Operand.func 15), args := #[Operand.tmp 125, Operand.tmp 127, Operand.const (Value.int IntKind.i64 32), Operand.tmp 130], argTypes := #[26, 22, 3, 22] }, type := 37, pos := "law.go:103", after := #[{ on := 0, ground := Ground.data }, { on := 2, ground := Ground.data }, { on := 5, ground := Ground.data }, { on := 2, ground := Ground.chain }], guard := none }) rfl (fun K hK => ?_) (AllReadyH.cons (o := { dst := some 16, op := Op.alloc 36, type := 0, pos := "law.go:103", after := #[], guard := none }) rfl (fun K hK => ?_) AllReadyH.nil)
                  all_goals go_simp
                  · refine (CLK.out _ (HKX.out _ hHeld.2)).mono ?_
                    rintro e u2 ⟨rfl, hk2⟩
                    have HS2 : Hid (u2.cell? ⟨bx, 0, none⟩ = some (.int .u32 qa) ∧ Keep [] yx u2) := Lib.hid ⟨hk2.cell hHeld.1 (by simp), hHeld.2.trans hk2⟩
                    clear hk2
                    go_wp2_with fail
                    refine shut_grow (fun x => x.cell? ⟨bx, 0, none⟩ = some (.int .u32 qa) ∧ Keep [] yx x) hK (fun _ h => h) HS2.out (fun hHeld => ?_)
                    clear hK K HS2
                    refine wpAnyH_take (i := 7) (oi := { dst := some 124, op := Op.move (Operand.tmp 131), type := 37, pos := "law.go:103", after := #[{ on := 6, ground := Ground.data }], guard := none }) (v := ?_) rfl (by kernel_rfl) (by kernel_rfl) (by kernel_rfl) (fun _ _ _ h => h) (Or.inl ⟨by rfl, ?_⟩) (by assumption) ?_
                    rotate_left
                    focus (intro w hSw; (try dsimp only at hSw); go_simp <;> with_reducible rfl)
                    try simp only [Act.put, List.setIfInBounds_toArray, List.set_cons_zero, List.set_cons_succ]
                    refine wpAnyH_take (i := 8) (oi := { dst := some 132, op := Op.extract (Operand.tmp 124) 0, type := 36, pos := "law.go:103", after := #[{ on := 7, ground := Ground.data }], guard := none }) (v := ?_) rfl (by kernel_rfl) (by kernel_rfl) (by kernel_rfl) (fun _ _ _ h => h) (Or.inl ⟨by rfl, ?_⟩) (by assumption) ?_
                    rotate_left
                    focus (intro w hSw; (try dsimp only at hSw); go_simp <;> with_reducible rfl)
                    try simp only [Act.put, List.setIfInBounds_toArray, List.set_cons_zero, List.set_cons_succ]
                    refine wpAnyH_take (i := 9) (oi := { dst := some 133, op := Op.extract (Operand.tmp 124) 1, type := 4, pos := "law.go:103", after := #[{ on := 7, ground := Ground.data }, { on := 11, ground := Ground.gcOnly Departure.lateStores }], guard := none }) (v := ?_) rfl (by kernel_rfl) (by kernel_rfl) (by kernel_rfl) (fun _ _ _ h => h) (Or.inl ⟨by rfl, ?_⟩) (by assumption) ?_
                    rotate_left
                    focus (intro w hSw; (try dsimp only at hSw); go_simp <;> with_reducible rfl)
                    try simp only [Act.put, List.setIfInBounds_toArray, List.set_cons_zero, List.set_cons_succ]
                    refine wpAnyH_ready (rs := [10]) (by kernel_rfl) (by simp) ?_
                    refine AllReadyH.cons (o := { dst := some 16, op := Op.alloc 36, type := 0, pos := "law.go:103", after := #[], guard := none }) rfl (fun K hK => ?_) AllReadyH.nil
                    go_simp
                    obtain ⟨m, hm⟩ : ∃ m, m = u2.heap.size := ⟨_, rfl⟩
                    rw [← hm]
                    generalize hu3 : World.alloc u2 _ = u3
                    have HS3 : Hid (((u3.cell? ⟨bx, 0, none⟩ = some (.int .u32 qa) ∧ Keep [] yx u3) ∧ Way6 u3 m) ∧ yx.heap.size ≤ m) := Lib.hid (by
                      have hsz := hHeld.2.size
                      have hk1 : Keep [] u2 u3 := by subst hu3; exact (Keep.refl [] _).alloc _
                      refine ⟨⟨⟨hk1.cell hHeld.1 (by simp), hHeld.2.trans hk1⟩, ?_⟩, by rw [hm]; exact hsz⟩
                      subst hu3 hm
                      exact ⟨_, _, _, _, _, _, heap_alloc_same _ _⟩)
                    have hmy := HS3.out.2
                    clear hu3 hm
                    refine shut_grow (fun x => (x.cell? ⟨bx, 0, none⟩ = some (.int .u32 qa) ∧ Keep [] yx x) ∧ Way6 x m) hK (fun _ h => h.1) HS3.out.1 (fun hHeld => ?_)
                    clear hK K HS3
                    skip
                    obtain ⟨z0, z1, z2', z3, z4, z5, hW6⟩ := hHeld.2
                    obtain ⟨⟨g0, g1, g2, g3, g4, g5⟩, ⟨f0, f1, f2, f3, f4, f5⟩⟩ := hW6.facts
                    have HE : Hid (Keep [] yx (way6 u3 m (.int .u32 qb) (.int .u32 ay) (.int .u32 e') (.int .i64 d') (.int .i64 t') (.int .i64 qf)) ∧ WayB (way6 u3 m (.int .u32 qb) (.int .u32 ay) (.int .u32 e') (.int .i64 d') (.int .i64 t') (.int .i64 qf)) m (.int .u32 qb) (.int .u32 ay) (.int .u32 e') (.int .i64 d') (.int .i64 t') (.int .i64 qf)) := Lib.hid ⟨way6_keep hHeld.1.2 hmy, hW6.put _ _ _ _ _ _⟩
                    refine wpAnyH_ready (rs := [11]) (by kernel_rfl) (by simp) ?_
                    refine AllReadyH.cons (o := { dst := none, op := Op.store 36 (Operand.tmp 16) (Operand.tmp 132), type := 0, pos := "law.go:103", after := #[{ on := 10, ground := Ground.data }, { on := 8, ground := Ground.data }, { on := 6, ground := Ground.chain }, { on := 0, ground := Ground.phase }, { on := 1, ground := Ground.phase }, { on := 2, ground := Ground.phase }, { on := 3, ground := Ground.phase }, { on := 4, ground := Ground.phase }, { on := 5, ground := Ground.phase }, { on := 6, ground := Ground.phase }, { on := 7, ground := Ground.phase }, { on := 8, ground := Ground.phase }, { on := 9, ground := Ground.textOnly Departure.lateStores }, { on := 10, ground := Ground.phase }], guard := none }) rfl (fun K hK => ?_) AllReadyH.nil
                    go_simp
                    change K _ (way6 u3 m (.int .u32 qb) (.int .u32 ay) (.int .u32 e') (.int .i64 d') (.int .i64 t') (.int .i64 qf))
                    have hF : Keep [] yx (way6 u3 m (.int .u32 qb) (.int .u32 ay) (.int .u32 e') (.int .i64 d') (.int .i64 t') (.int .i64 qf)) := HE.out.1
                    refine shut_grow (fun z => z = way6 u3 m (.int .u32 qb) (.int .u32 ay) (.int .u32 e') (.int .i64 d') (.int .i64 t') (.int .i64 qf)) hK (fun z h => by rw [h]; exact ⟨⟨hF.cell hb0 (by simp), hF⟩, ⟨_, _, _, _, _, _, HE.out.2⟩⟩) rfl (fun hHeld => ?_)
                    clear hK K
                    refine wpAnyH_take (i := 12) (oi := { dst := some 17, op := Op.assign (Operand.tmp 133), type := 4, pos := "law.go:103", after := #[{ on := 9, ground := Ground.data }, { on := 11, ground := Ground.chain }, { on := 0, ground := Ground.phase }, { on := 1, ground := Ground.phase }, { on := 2, ground := Ground.phase }, { on := 3, ground := Ground.phase }, { on := 4, ground := Ground.phase }, { on := 5, ground := Ground.phase }, { on := 6, ground := Ground.phase }, { on := 7, ground := Ground.phase }, { on := 8, ground := Ground.phase }, { on := 9, ground := Ground.phase }, { on := 10, ground := Ground.phase }, { on := 11, ground := Ground.phase }], guard := none }) (v := ?_) rfl (by kernel_rfl) (by kernel_rfl) (by kernel_rfl) (fun _ _ _ h => h) (Or.inl ⟨by rfl, ?_⟩) (by assumption) ?_
                    rotate_left
                    focus (intro w hSw; (try dsimp only at hSw); go_simp <;> with_reducible rfl)
                    try simp only [Act.put, List.setIfInBounds_toArray, List.set_cons_zero, List.set_cons_succ]
                    refine wpAnyH_done (by kernel_rfl) ?_ _
                    clear hHeld hF g0 g1 g2 g3 g4 g5 f0 f1 f2 f3 f4 f5
                    change Exit.then _ _ _ _ (way6 u3 m (.int .u32 qb) (.int .u32 ay) (.int .u32 e') (.int .i64 d') (.int .i64 t') (.int .i64 qf))
                    generalize way6 u3 m (.int .u32 qb) (.int .u32 ay) (.int .u32 e') (.int .i64 d') (.int .i64 t') (.int .i64 qf) = u9 at HE
                    have x0 : u9.cell? ⟨bx, 0, none⟩ = some (.int .u32 qa) := cell_of (HE.out.1.heap HX.out.2.1 (by simp)) 0 rfl
                    have x1 : u9.cell? ⟨bx, 1, none⟩ = some (.int .i64 qf) := cell_of (HE.out.1.heap HX.out.2.1 (by simp)) 1 rfl
                    have x2 : u9.cell? ⟨bx, 2, none⟩ = some (.int .u32 qb) := cell_of (HE.out.1.heap HX.out.2.1 (by simp)) 2 rfl
                    have y0 : u9.cell? ⟨m, 0, none⟩ = some (.int .u32 qb) := cell_of HE.out.2 0 rfl
                    have y5 : u9.cell? ⟨m, 5, none⟩ = some (.int .i64 qf) := cell_of HE.out.2 5 rfl
                    have pp := (HX.out.1.trans HE.out.1).cell hp0 (by simp)
                    have HKN : Hid (∀ d, Keep [] z2 (u9.drewN d)) := Lib.hid (fun d => HKX.out _ (HE.out.1.drewN d))
                    have HJ1 : Hid (j + 1 ≤ ps.length ∧ ps.length - (j + 1) < ps.length - j) := Lib.hid (by have := HJ.out; omega)
                    clear HE hb0 hp0 w5
                    go_wp2_with fail
                    go_quiet (fail)
                    go_wp2_with fail
                    go_roundw
                    case rel => exact ⟨j + 1, _, _, _, by go_num, rfl, rfl, rfl, HJ1.out.1, Lib.hid (HKN.out _)⟩
                    case measure => simp [intOf]; have := HJ1.out.2; omega
                  · obtain ⟨m, hm⟩ : ∃ m, m = yd.heap.size := ⟨_, rfl⟩
                    rw [← hm]
                    generalize hu3 : World.alloc yd _ = u3
                    have HS3 : Hid (((u3.cell? ⟨bx, 0, none⟩ = some (.int .u32 qa) ∧ Keep [] yx u3) ∧ Way6 u3 m) ∧ yx.heap.size ≤ m) := Lib.hid (by
                      have hsz := hHeld.2.size
                      have hk1 : Keep [] yd u3 := by subst hu3; exact (Keep.refl [] _).alloc _
                      refine ⟨⟨⟨hk1.cell hHeld.1 (by simp), hHeld.2.trans hk1⟩, ?_⟩, by rw [hm]; exact hsz⟩
                      subst hu3 hm
                      exact ⟨_, _, _, _, _, _, heap_alloc_same _ _⟩)
                    have hmy := HS3.out.2
                    clear hu3 hm
                    refine shut_grow (fun x => (x.cell? ⟨bx, 0, none⟩ = some (.int .u32 qa) ∧ Keep [] yx x) ∧ Way6 x m) hK (fun _ h => h.1) HS3.out.1 (fun hHeld => ?_)
                    clear hK K HS3
                    refine wpAnyH_ready (rs := [6]) (by kernel_rfl) (by simp) ?_
                    refine AllReadyH.cons (o := { dst := some 131, op := Op.call { callee := Callee.value (Operand.func 15), args := #[Operand.tmp 125, Operand.tmp 127, Operand.const (Value.int IntKind.i64 32), Operand.tmp 130], argTypes := #[26, 22, 3, 22] }, type := 37, pos := "law.go:103", after := #[{ on := 0, ground := Ground.data }, { on := 2, ground := Ground.data }, { on := 5, ground := Ground.data }, { on := 2, ground := Ground.chain }], guard := none }) rfl (fun K hK => ?_) AllReadyH.nil
                    go_simp
                    refine (CLK.out _ (HKX.out _ hHeld.1.2)).mono ?_
                    rintro e u2 ⟨rfl, hk2⟩
                    have HS2 : Hid ((u2.cell? ⟨bx, 0, none⟩ = some (.int .u32 qa) ∧ Keep [] yx u2) ∧ Way6 u2 m) := Lib.hid ⟨⟨hk2.cell hHeld.1.1 (by simp), hHeld.1.2.trans hk2⟩, hHeld.2.keep hk2⟩
                    clear hk2
                    go_wp2_with fail
                    refine shut_grow (fun x => (x.cell? ⟨bx, 0, none⟩ = some (.int .u32 qa) ∧ Keep [] yx x) ∧ Way6 x m) hK (fun _ h => h) HS2.out (fun hHeld => ?_)
                    clear hK K HS2
                    refine wpAnyH_take (i := 7) (oi := { dst := some 124, op := Op.move (Operand.tmp 131), type := 37, pos := "law.go:103", after := #[{ on := 6, ground := Ground.data }], guard := none }) (v := ?_) rfl (by kernel_rfl) (by kernel_rfl) (by kernel_rfl) (fun _ _ _ h => h) (Or.inl ⟨by rfl, ?_⟩) (by assumption) ?_
                    rotate_left
                    focus (intro w hSw; (try dsimp only at hSw); go_simp <;> with_reducible rfl)
                    try simp only [Act.put, List.setIfInBounds_toArray, List.set_cons_zero, List.set_cons_succ]
                    refine wpAnyH_take (i := 8) (oi := { dst := some 132, op := Op.extract (Operand.tmp 124) 0, type := 36, pos := "law.go:103", after := #[{ on := 7, ground := Ground.data }], guard := none }) (v := ?_) rfl (by kernel_rfl) (by kernel_rfl) (by kernel_rfl) (fun _ _ _ h => h) (Or.inl ⟨by rfl, ?_⟩) (by assumption) ?_
                    rotate_left
                    focus (intro w hSw; (try dsimp only at hSw); go_simp <;> with_reducible rfl)
                    try simp only [Act.put, List.setIfInBounds_toArray, List.set_cons_zero, List.set_cons_succ]
                    refine wpAnyH_take (i := 9) (oi := { dst := some 133, op := Op.extract (Operand.tmp 124) 1, type := 4, pos := "law.go:103", after := #[{ on := 7, ground := Ground.data }, { on := 11, ground := Ground.gcOnly Departure.lateStores }], guard := none }) (v := ?_) rfl (by kernel_rfl) (by kernel_rfl) (by kernel_rfl) (fun _ _ _ h => h) (Or.inl ⟨by rfl, ?_⟩) (by assumption) ?_
                    rotate_left
                    focus (intro w hSw; (try dsimp only at hSw); go_simp <;> with_reducible rfl)
                    try simp only [Act.put, List.setIfInBounds_toArray, List.set_cons_zero, List.set_cons_succ]
                    obtain ⟨z0, z1, z2', z3, z4, z5, hW6⟩ := hHeld.2
                    obtain ⟨⟨g0, g1, g2, g3, g4, g5⟩, ⟨f0, f1, f2, f3, f4, f5⟩⟩ := hW6.facts
                    have HE : Hid (Keep [] yx (way6 u2 m (.int .u32 qb) (.int .u32 ay) (.int .u32 e') (.int .i64 d') (.int .i64 t') (.int .i64 qf)) ∧ WayB (way6 u2 m (.int .u32 qb) (.int .u32 ay) (.int .u32 e') (.int .i64 d') (.int .i64 t') (.int .i64 qf)) m (.int .u32 qb) (.int .u32 ay) (.int .u32 e') (.int .i64 d') (.int .i64 t') (.int .i64 qf)) := Lib.hid ⟨way6_keep hHeld.1.2 hmy, hW6.put _ _ _ _ _ _⟩
                    refine wpAnyH_ready (rs := [11]) (by kernel_rfl) (by simp) ?_
                    refine AllReadyH.cons (o := { dst := none, op := Op.store 36 (Operand.tmp 16) (Operand.tmp 132), type := 0, pos := "law.go:103", after := #[{ on := 10, ground := Ground.data }, { on := 8, ground := Ground.data }, { on := 6, ground := Ground.chain }, { on := 0, ground := Ground.phase }, { on := 1, ground := Ground.phase }, { on := 2, ground := Ground.phase }, { on := 3, ground := Ground.phase }, { on := 4, ground := Ground.phase }, { on := 5, ground := Ground.phase }, { on := 6, ground := Ground.phase }, { on := 7, ground := Ground.phase }, { on := 8, ground := Ground.phase }, { on := 9, ground := Ground.textOnly Departure.lateStores }, { on := 10, ground := Ground.phase }], guard := none }) rfl (fun K hK => ?_) AllReadyH.nil
                    go_simp
                    change K _ (way6 u2 m (.int .u32 qb) (.int .u32 ay) (.int .u32 e') (.int .i64 d') (.int .i64 t') (.int .i64 qf))
                    have hF : Keep [] yx (way6 u2 m (.int .u32 qb) (.int .u32 ay) (.int .u32 e') (.int .i64 d') (.int .i64 t') (.int .i64 qf)) := HE.out.1
                    refine shut_grow (fun z => z = way6 u2 m (.int .u32 qb) (.int .u32 ay) (.int .u32 e') (.int .i64 d') (.int .i64 t') (.int .i64 qf)) hK (fun z h => by rw [h]; exact ⟨⟨hF.cell hb0 (by simp), hF⟩, ⟨_, _, _, _, _, _, HE.out.2⟩⟩) rfl (fun hHeld => ?_)
                    clear hK K
                    refine wpAnyH_take (i := 12) (oi := { dst := some 17, op := Op.assign (Operand.tmp 133), type := 4, pos := "law.go:103", after := #[{ on := 9, ground := Ground.data }, { on := 11, ground := Ground.chain }, { on := 0, ground := Ground.phase }, { on := 1, ground := Ground.phase }, { on := 2, ground := Ground.phase }, { on := 3, ground := Ground.phase }, { on := 4, ground := Ground.phase }, { on := 5, ground := Ground.phase }, { on := 6, ground := Ground.phase }, { on := 7, ground := Ground.phase }, { on := 8, ground := Ground.phase }, { on := 9, ground := Ground.phase }, { on := 10, ground := Ground.phase }, { on := 11, ground := Ground.phase }], guard := none }) (v := ?_) rfl (by kernel_rfl) (by kernel_rfl) (by kernel_rfl) (fun _ _ _ h => h) (Or.inl ⟨by rfl, ?_⟩) (by assumption) ?_
                    rotate_left
                    focus (intro w hSw; (try dsimp only at hSw); go_simp <;> with_reducible rfl)
                    try simp only [Act.put, List.setIfInBounds_toArray, List.set_cons_zero, List.set_cons_succ]
                    refine wpAnyH_done (by kernel_rfl) ?_ _
                    clear hHeld hF g0 g1 g2 g3 g4 g5 f0 f1 f2 f3 f4 f5
                    change Exit.then _ _ _ _ (way6 u2 m (.int .u32 qb) (.int .u32 ay) (.int .u32 e') (.int .i64 d') (.int .i64 t') (.int .i64 qf))
                    generalize way6 u2 m (.int .u32 qb) (.int .u32 ay) (.int .u32 e') (.int .i64 d') (.int .i64 t') (.int .i64 qf) = u9 at HE
                    have x0 : u9.cell? ⟨bx, 0, none⟩ = some (.int .u32 qa) := cell_of (HE.out.1.heap HX.out.2.1 (by simp)) 0 rfl
                    have x1 : u9.cell? ⟨bx, 1, none⟩ = some (.int .i64 qf) := cell_of (HE.out.1.heap HX.out.2.1 (by simp)) 1 rfl
                    have x2 : u9.cell? ⟨bx, 2, none⟩ = some (.int .u32 qb) := cell_of (HE.out.1.heap HX.out.2.1 (by simp)) 2 rfl
                    have y0 : u9.cell? ⟨m, 0, none⟩ = some (.int .u32 qb) := cell_of HE.out.2 0 rfl
                    have y5 : u9.cell? ⟨m, 5, none⟩ = some (.int .i64 qf) := cell_of HE.out.2 5 rfl
                    have pp := (HX.out.1.trans HE.out.1).cell hp0 (by simp)
                    have HKN : Hid (∀ d, Keep [] z2 (u9.drewN d)) := Lib.hid (fun d => HKX.out _ (HE.out.1.drewN d))
                    have HJ1 : Hid (j + 1 ≤ ps.length ∧ ps.length - (j + 1) < ps.length - j) := Lib.hid (by have := HJ.out; omega)
                    clear HE hb0 hp0 w5
                    go_wp2_with fail
                    go_quiet (fail)
                    go_wp2_with fail
                    go_roundw
                    case rel => exact ⟨j + 1, _, _, _, by go_num, rfl, rfl, rfl, HJ1.out.1, Lib.hid (HKN.out _)⟩
                    case measure => simp [intOf]; have := HJ1.out.2; omega
                · obtain ⟨m, hm⟩ : ∃ m, m = yd.heap.size := ⟨_, rfl⟩
                  rw [← hm]
                  generalize hu3 : World.alloc yd _ = u3
                  have HS3 : Hid (((u3.cell? ⟨bx, 0, none⟩ = some (.int .u32 qa) ∧ Keep [] yx u3) ∧ Way6 u3 m) ∧ yx.heap.size ≤ m) := Lib.hid (by
                    have hsz := hHeld.2.size
                    have hk1 : Keep [] yd u3 := by subst hu3; exact (Keep.refl [] _).alloc _
                    refine ⟨⟨⟨hk1.cell hHeld.1 (by simp), hHeld.2.trans hk1⟩, ?_⟩, by rw [hm]; exact hsz⟩
                    subst hu3 hm
                    exact ⟨_, _, _, _, _, _, heap_alloc_same _ _⟩)
                  have hmy := HS3.out.2
                  clear hu3 hm
                  refine shut_grow (fun x => (x.cell? ⟨bx, 0, none⟩ = some (.int .u32 qa) ∧ Keep [] yx x) ∧ Way6 x m) hK (fun _ h => h.1) HS3.out.1 (fun hHeld => ?_)
                  clear hK K HS3
                  refine wpAnyH_ready (rs := [2]) (by kernel_rfl) (by simp) ?_
                  refine AllReadyH.cons (o := { dst := some 127, op := Op.call { callee := Callee.value (Operand.func 16), args := #[Operand.tmp 126], argTypes := #[27] }, type := 22, pos := "law.go:103", after := #[{ on := 1, ground := Ground.data }], guard := none }) rfl (fun K hK => ?_) AllReadyH.nil
                  go_simp
                  refine (CRT.out _ (HKX.out _ hHeld.1.2)).mono ?_
                  rintro e u1 ⟨rfl, rfl⟩
                  go_wp2_with fail
                  refine shut_grow (fun x => (x.cell? ⟨bx, 0, none⟩ = some (.int .u32 qa) ∧ Keep [] yx x) ∧ Way6 x m) hK (fun _ h => h) hHeld (fun hHeld => ?_)
                  clear hK K
                  refine wpAnyH_ready (rs := [6]) (by kernel_rfl) (by simp) ?_
                  refine AllReadyH.cons (o := { dst := some 131, op := Op.call { callee := Callee.value (Operand.func 15), args := #[Operand.tmp 125, Operand.tmp 127, Operand.const (Value.int IntKind.i64 32), Operand.tmp 130], argTypes := #[26, 22, 3, 22] }, type := 37, pos := "law.go:103", after := #[{ on := 0, ground := Ground.data }, { on := 2, ground := Ground.data }, { on := 5, ground := Ground.data }, { on := 2, ground := Ground.chain }], guard := none }) rfl (fun K hK => ?_) AllReadyH.nil
                  go_simp
                  refine (CLK.out _ (HKX.out _ hHeld.1.2)).mono ?_
                  rintro e u2 ⟨rfl, hk2⟩
                  have HS2 : Hid ((u2.cell? ⟨bx, 0, none⟩ = some (.int .u32 qa) ∧ Keep [] yx u2) ∧ Way6 u2 m) := Lib.hid ⟨⟨hk2.cell hHeld.1.1 (by simp), hHeld.1.2.trans hk2⟩, hHeld.2.keep hk2⟩
                  clear hk2
                  go_wp2_with fail
                  refine shut_grow (fun x => (x.cell? ⟨bx, 0, none⟩ = some (.int .u32 qa) ∧ Keep [] yx x) ∧ Way6 x m) hK (fun _ h => h) HS2.out (fun hHeld => ?_)
                  clear hK K HS2
                  refine wpAnyH_take (i := 7) (oi := { dst := some 124, op := Op.move (Operand.tmp 131), type := 37, pos := "law.go:103", after := #[{ on := 6, ground := Ground.data }], guard := none }) (v := ?_) rfl (by kernel_rfl) (by kernel_rfl) (by kernel_rfl) (fun _ _ _ h => h) (Or.inl ⟨by rfl, ?_⟩) (by assumption) ?_
                  rotate_left
                  focus (intro w hSw; (try dsimp only at hSw); go_simp <;> with_reducible rfl)
                  try simp only [Act.put, List.setIfInBounds_toArray, List.set_cons_zero, List.set_cons_succ]
                  refine wpAnyH_take (i := 8) (oi := { dst := some 132, op := Op.extract (Operand.tmp 124) 0, type := 36, pos := "law.go:103", after := #[{ on := 7, ground := Ground.data }], guard := none }) (v := ?_) rfl (by kernel_rfl) (by kernel_rfl) (by kernel_rfl) (fun _ _ _ h => h) (Or.inl ⟨by rfl, ?_⟩) (by assumption) ?_
                  rotate_left
                  focus (intro w hSw; (try dsimp only at hSw); go_simp <;> with_reducible rfl)
                  try simp only [Act.put, List.setIfInBounds_toArray, List.set_cons_zero, List.set_cons_succ]
                  refine wpAnyH_take (i := 9) (oi := { dst := some 133, op := Op.extract (Operand.tmp 124) 1, type := 4, pos := "law.go:103", after := #[{ on := 7, ground := Ground.data }, { on := 11, ground := Ground.gcOnly Departure.lateStores }], guard := none }) (v := ?_) rfl (by kernel_rfl) (by kernel_rfl) (by kernel_rfl) (fun _ _ _ h => h) (Or.inl ⟨by rfl, ?_⟩) (by assumption) ?_
                  rotate_left
                  focus (intro w hSw; (try dsimp only at hSw); go_simp <;> with_reducible rfl)
                  try simp only [Act.put, List.setIfInBounds_toArray, List.set_cons_zero, List.set_cons_succ]
                  obtain ⟨z0, z1, z2', z3, z4, z5, hW6⟩ := hHeld.2
                  obtain ⟨⟨g0, g1, g2, g3, g4, g5⟩, ⟨f0, f1, f2, f3, f4, f5⟩⟩ := hW6.facts
                  have HE : Hid (Keep [] yx (way6 u2 m (.int .u32 qb) (.int .u32 ay) (.int .u32 e') (.int .i64 d') (.int .i64 t') (.int .i64 qf)) ∧ WayB (way6 u2 m (.int .u32 qb) (.int .u32 ay) (.int .u32 e') (.int .i64 d') (.int .i64 t') (.int .i64 qf)) m (.int .u32 qb) (.int .u32 ay) (.int .u32 e') (.int .i64 d') (.int .i64 t') (.int .i64 qf)) := Lib.hid ⟨way6_keep hHeld.1.2 hmy, hW6.put _ _ _ _ _ _⟩
                  refine wpAnyH_ready (rs := [11]) (by kernel_rfl) (by simp) ?_
                  refine AllReadyH.cons (o := { dst := none, op := Op.store 36 (Operand.tmp 16) (Operand.tmp 132), type := 0, pos := "law.go:103", after := #[{ on := 10, ground := Ground.data }, { on := 8, ground := Ground.data }, { on := 6, ground := Ground.chain }, { on := 0, ground := Ground.phase }, { on := 1, ground := Ground.phase }, { on := 2, ground := Ground.phase }, { on := 3, ground := Ground.phase }, { on := 4, ground := Ground.phase }, { on := 5, ground := Ground.phase }, { on := 6, ground := Ground.phase }, { on := 7, ground := Ground.phase }, { on := 8, ground := Ground.phase }, { on := 9, ground := Ground.textOnly Departure.lateStores }, { on := 10, ground := Ground.phase }], guard := none }) rfl (fun K hK => ?_) AllReadyH.nil
                  go_simp
                  change K _ (way6 u2 m (.int .u32 qb) (.int .u32 ay) (.int .u32 e') (.int .i64 d') (.int .i64 t') (.int .i64 qf))
                  have hF : Keep [] yx (way6 u2 m (.int .u32 qb) (.int .u32 ay) (.int .u32 e') (.int .i64 d') (.int .i64 t') (.int .i64 qf)) := HE.out.1
                  refine shut_grow (fun z => z = way6 u2 m (.int .u32 qb) (.int .u32 ay) (.int .u32 e') (.int .i64 d') (.int .i64 t') (.int .i64 qf)) hK (fun z h => by rw [h]; exact ⟨⟨hF.cell hb0 (by simp), hF⟩, ⟨_, _, _, _, _, _, HE.out.2⟩⟩) rfl (fun hHeld => ?_)
                  clear hK K
                  refine wpAnyH_take (i := 12) (oi := { dst := some 17, op := Op.assign (Operand.tmp 133), type := 4, pos := "law.go:103", after := #[{ on := 9, ground := Ground.data }, { on := 11, ground := Ground.chain }, { on := 0, ground := Ground.phase }, { on := 1, ground := Ground.phase }, { on := 2, ground := Ground.phase }, { on := 3, ground := Ground.phase }, { on := 4, ground := Ground.phase }, { on := 5, ground := Ground.phase }, { on := 6, ground := Ground.phase }, { on := 7, ground := Ground.phase }, { on := 8, ground := Ground.phase }, { on := 9, ground := Ground.phase }, { on := 10, ground := Ground.phase }, { on := 11, ground := Ground.phase }], guard := none }) (v := ?_) rfl (by kernel_rfl) (by kernel_rfl) (by kernel_rfl) (fun _ _ _ h => h) (Or.inl ⟨by rfl, ?_⟩) (by assumption) ?_
                  rotate_left
                  focus (intro w hSw; (try dsimp only at hSw); go_simp <;> with_reducible rfl)
                  try simp only [Act.put, List.setIfInBounds_toArray, List.set_cons_zero, List.set_cons_succ]
                  refine wpAnyH_done (by kernel_rfl) ?_ _
                  clear hHeld hF g0 g1 g2 g3 g4 g5 f0 f1 f2 f3 f4 f5
                  change Exit.then _ _ _ _ (way6 u2 m (.int .u32 qb) (.int .u32 ay) (.int .u32 e') (.int .i64 d') (.int .i64 t') (.int .i64 qf))
                  generalize way6 u2 m (.int .u32 qb) (.int .u32 ay) (.int .u32 e') (.int .i64 d') (.int .i64 t') (.int .i64 qf) = u9 at HE
                  have x0 : u9.cell? ⟨bx, 0, none⟩ = some (.int .u32 qa) := cell_of (HE.out.1.heap HX.out.2.1 (by simp)) 0 rfl
                  have x1 : u9.cell? ⟨bx, 1, none⟩ = some (.int .i64 qf) := cell_of (HE.out.1.heap HX.out.2.1 (by simp)) 1 rfl
                  have x2 : u9.cell? ⟨bx, 2, none⟩ = some (.int .u32 qb) := cell_of (HE.out.1.heap HX.out.2.1 (by simp)) 2 rfl
                  have y0 : u9.cell? ⟨m, 0, none⟩ = some (.int .u32 qb) := cell_of HE.out.2 0 rfl
                  have y5 : u9.cell? ⟨m, 5, none⟩ = some (.int .i64 qf) := cell_of HE.out.2 5 rfl
                  have pp := (HX.out.1.trans HE.out.1).cell hp0 (by simp)
                  have HKN : Hid (∀ d, Keep [] z2 (u9.drewN d)) := Lib.hid (fun d => HKX.out _ (HE.out.1.drewN d))
                  have HJ1 : Hid (j + 1 ≤ ps.length ∧ ps.length - (j + 1) < ps.length - j) := Lib.hid (by have := HJ.out; omega)
                  clear HE hb0 hp0 w5
                  go_wp2_with fail
                  go_quiet (fail)
                  go_wp2_with fail
                  go_roundw
                  case rel => exact ⟨j + 1, _, _, _, by go_num, rfl, rfl, rfl, HJ1.out.1, Lib.hid (HKN.out _)⟩
                  case measure => simp [intOf]; have := HJ1.out.2; omega
              · have hj1' : ¬ ((j : Int) < (ps.length : Int)) := by omega
                clear hj hjl hall d0 d1 d2 d3
                go_wp2_with fail
                go_loopw [18, 19, 20, 21, 22, 23] (fun kv v1 v2 v3 v4 v5 wr => ∃ (j : Nat) (a b c d e : Value), kv = .int .i64 j ∧ v1 = a ∧ v2 = b ∧ v3 = c ∧ v4 = d ∧ v5 = e ∧ j ≤ 20 ∧ Hid (Keep [] z2 wr)) (fun kv _ _ _ _ _ _ => 20 - (intOf kv).toNat)
                case atStart => exact ⟨0, _, _, _, _, _, rfl, rfl, rfl, rfl, rfl, rfl, by omega, HK⟩
                case round =>
                  clear HK
                  obtain ⟨jj, v1, v2, v3, v4, v5, rfl, rfl, rfl, rfl, rfl, rfl, hjj, HK⟩ := hrel
                  rename World => wv
                  by_cases hl : jj < len2 ∧ jj < 20
                  · obtain ⟨hl1, hl2⟩ := hl
                    obtain ⟨lb, off, rfl, hl64, va, hva, hvc⟩ : ∃ lb off, s2 = some ⟨lb, off, none⟩ ∧ len2 ≤ 9223372036854775807 ∧ ∃ va : Nat, va < 4294967296 ∧ wv.cell? ⟨lb, off + jj, none⟩ = some (.int .u32 va) := by
                      rcases HW.out with h | ⟨lb, off, h1, h2, h3⟩
                      · omega
                      · obtain ⟨va, g1, g2⟩ := h3 jj hl1
                        have hb := World.block_lt_of_cell? w _ g2
                        exact ⟨lb, off, h1, h2, va, g1, (HA.out wv HK.out).2.2.2.cell g2 (by simp at hb; omega)⟩
                    have i0 : (0 : Int) ≤ (jj : Int) := by omega
                    have i1 : (jj : Int) < (len2 : Int) := by omega
                    have i2 : (jj : Int) < 20 := by omega
                    have CN := Lib.hid (near_at va hva wv)
                    have hno := nearF_lt hva
                    generalize nearF va = no at CN hno
                    have CRT : Hid (Calls Try.prog 16 #[.pointer (some ⟨s, 0, none⟩)] wv (fun e w' => e = .returned (.int .u32 512) ∧ wv = w')) := Lib.hid (by
                      have h := (HA.out wv HK.out).1.sat.sh.heads
                      exact sroot_at (dir := 8) h.1 h.2.2.1 (by omega))
                    obtain ⟨q6, hq6, hq7⟩ : ∃ q, lookF (rdOf 40 L) 40 512 32 no = q ∧ q.isSome = hitB ps no := by
                      refine ⟨_, rfl, ?_⟩
                      have hlk := HAG.out.look (HA.out wv HK.out).1.sat.inv no
                      rcases look_sh (HA.out wv HK.out).1.sat.inv no with ⟨h0, h1⟩ | ⟨f, b, h1, h2, h3, h4, e, d, t, h5⟩
                      · rw [h1]
                        symm
                        exact decide_eq_false (fun q => hlk.1 q h0)
                      · rw [h5]
                        symm
                        exact decide_eq_true (hlk.2 (by omega))
                    have CLK : Hid (LookC r no wv (wayV q6) (hitB ps no)) := Lib.hid (by
                      have := look_at (HA.out wv HK.out).1.sat.mem 512 32 no (by omega) (by omega) (by omega)
                      rw [hq6] at this
                      unfold LookC
                      rw [← hq7]
                      exact this)
                    have HWV : Hid (∃ a b c d e f : Int, wayV q6 = .agg #[.int .u32 a, .int .u32 b, .int .u32 c, .int .i64 d, .int .i64 e, .int .i64 f]) := Lib.hid (by cases q6 <;> exact ⟨_, _, _, _, _, _, rfl⟩)
                    generalize wayV q6 = wq6 at CLK HWV
                    obtain ⟨a1, a2, a3, a4, a5, a6, rfl⟩ := HWV.out
                    clear hq6 hq7 hjj HWV
                    go_wp2_with fail
                    refine CN.out.mono ?_
                    rintro e y1 ⟨rfl, rfl⟩
                    go_wp2_with fail
                    refine CRT.out.mono ?_
                    rintro e y1 ⟨rfl, rfl⟩
                    go_wp2_with fail
                    have CLK2 := CLK.out
                    unfold LookC at CLK2
                    refine CLK2.mono ?_
                    rintro e u2 ⟨rfl, hk2⟩
                    have HK2 := Lib.hid (HK.out.trans hk2)
                    clear CLK2 hk2
                    go_wp2_with fail
                    generalize hu3 : World.alloc u2 _ = u3
                    have HK3 : Hid (Keep [] z2 u3) := Lib.hid (by subst hu3; exact HK2.out.alloc _)
                    clear hu3
                    have HL := Lib.hid (rslook_at (HA.out u3 HK3.out).2.1 (by omega) no hno)
                    refine HL.out.mono ?_
                    rintro e u4 ⟨x1, x2, x3, rfl, hk4⟩
                    have HK4 : Hid (∀ o, Keep [] z2 (u4.alloc o)) := Lib.hid (fun o => (HK3.out.trans hk4).alloc o)
                    clear hk4
                    go_wp2_with fail
                    go_roundw
                    case rel => exact ⟨jj + 1, _, _, _, _, _, by go_num, rfl, rfl, rfl, rfl, rfl, by omega, Lib.hid (HK4.out _)⟩
                    case measure => simp [intOf]; omega
                  · have hex : ¬ ((jj : Int) < (len2 : Int)) ∨ (jj : Int) < (len2 : Int) ∧ ¬ ((jj : Int) < 20) := by omega
                    clear hl hjj
                    rcases hex with q1 | ⟨q1, q2⟩
                    all_goals
                      go_wp2_with fail
                      refine (sworks_at _).mono ?_
                      rintro e z9 ⟨rfl, hk9⟩
                      have HF : Hid (Below w.heap.size w z9) := Lib.hid (by
                        obtain ⟨l, hl, hk⟩ := (HA.out wv HK.out).2.2.2
                        exact (hk.then hk9 (by simp)).below (Nat.le_refl _) hl)
                      clear hk9
                      go_wp2_with fail
                      go_ret
                      exact ⟨rfl, HF.out⟩
end Go.Proofs.Ytpinoejckagjbaa
