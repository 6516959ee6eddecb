/- Contracts of the functions that the law reaches, walked, and the plain laws on them (several texts in one). -/
import Derived.Outline
import Derived.Test.YtpinoejckagjbaaM11

/- The shadow that the laws make; a page leads somewhere. -/
namespace Go.Proofs.Ytpinoejckagjbaa
open Go.RowKit Go.Mum
set_option linter.unusedVariables false
set_option linter.unusedSimpArgs false
set_option maxRecDepth 100000

def nearF (va : Nat) : Nat := if va % 5 = 0 then va else va % 6000

theorem nearF_lt {va : Nat} (h : va < 4294967296) : nearF va < 4294967296 := by unfold nearF; split <;> omega

theorem near_at (va : Nat) (hv : va < 4294967296) (w : World) : Calls Try.prog 12 #[.int .u32 va] w fun e w' => e = .returned (.int .u32 (nearF va : Nat)) ∧ w = w' := by
  have t1 : ((va : Int)).tmod 5 = (va : Int) % 5 := by rw [Int.tmod_eq_emod_of_nonneg (by omega)]
  have t2 : ((va : Int)).tmod 6000 = (va : Int) % 6000 := by rw [Int.tmod_eq_emod_of_nonneg (by omega)]
  by_cases h : va % 5 = 0
  · have h' : (va : Int) % 5 = 0 := by omega
    have e : nearF va = va := by unfold nearF; rw [if_pos h]
    rw [e]
    clear h e
    go_enter Try.func12, Try.ntmps12
    go_wp2_with fail
    go_ret
    exact ⟨rfl, rfl⟩
  · have h' : ¬ ((va : Int) % 5 = 0) := by omega
    obtain ⟨z, hz⟩ : ∃ z, z = va % 6000 := ⟨_, rfl⟩
    have h6 : (va : Int) % 6000 = (z : Int) := by omega
    have e : nearF va = z := by unfold nearF; rw [if_neg h, hz]
    rw [e]
    clear h e hz
    go_enter Try.func12, Try.ntmps12
    go_wp2_with fail
    go_ret
    exact ⟨rfl, rfl⟩

def memL0 : List Int := splice (List.replicate 2560 (165 : Int)) 512 (List.replicate 128 (0 : Int))

/-- What made leaves. -/
def SMade (most : Nat) (w : World) (e : Ending) (w' : World) : Prop :=
  ∃ r fb g s p pm, e = .returned (.tuple #[.pointer (some ⟨r, 0, none⟩), .pointer (some ⟨s, 0, none⟩), .pointer (some ⟨p, 0, none⟩)]) ∧ SAt w' s r fb g p pm most (fun _ => tab0) memL0 0 ∧ Keep [] w w' ∧ (w.heap.size ≤ r ∧ w.heap.size ≤ fb ∧ w.heap.size ≤ g ∧ w.heap.size ≤ s ∧ w.heap.size ≤ p ∧ w.heap.size ≤ pm)

theorem u8_cell_at {w : World} {g : Nat} {L : List Int} {t : TypeId} (h : w.heap[g]? = some (.cells (u8s L).toArray t (0, 0))) {k : Nat} (hk : k < L.length) : w.cell? ⟨g, k, none⟩ = some (.int .u8 L[k]) := cell_of h k (by simp [u8s, hk])

theorem fill_u8 (k : Nat) (hk : k < 2560) : (List.replicate k (165 : Int) ++ List.replicate (2560 - k) 0).set k 165 = List.replicate (k + 1) (165 : Int) ++ List.replicate (2560 - (k + 1)) 0 := by
  rw [List.set_append_right _ _ (by simp), List.length_replicate, Nat.sub_self, show 2560 - k = (2560 - (k + 1)) + 1 by omega, List.replicate_succ, List.set_cons_zero, List.replicate_succ' (n := k), List.append_assoc]
  rfl

set_option maxHeartbeats 4000000 in
theorem smade_at (mo : Nat) (hm : mo < 256) (w : World) : Calls Try.prog 11 #[.int .u8 mo] w (SMade (mo % 13) w) := by
  obtain ⟨most, hmo⟩ : ∃ m, m = mo % 13 := ⟨_, rfl⟩
  have t1 : ((mo : Int)).tmod 13 = (most : Int) := by rw [Int.tmod_eq_emod_of_nonneg (by omega)]; omega
  have u1 : (mo : Int) % 13 = (most : Int) := by omega
  have t2 : IntKind.i64.wrap (most : Int) = (most : Int) := IntWalk.i64_in _ (by omega)
  have hm13 : most ≤ 12 := by omega
  rw [← hmo]
  clear hmo
  have hmk := make_u8 2560 (by omega) 2560 rfl
  obtain ⟨Zs, hZs⟩ : ∃ Z, Z = List.replicate 2560 (0 : Int) := ⟨_, rfl⟩
  rw [← hZs] at hmk
  have HZ := Lib.hid hZs
  clear hZs
  go_enter Try.func11, Try.ntmps11
  go_wp2_with fail
  refine (rnew_good 40 _ (by omega) (by omega)).mono ?_
  rintro e y ⟨r, fb, g, hr, hfb, hg, rfl, hA, hk⟩
  have H1 : Hid (RamAt y r fb g (List.range 40) (List.replicate 2560 0) ∧ Keep [] w y ∧ (w.heap.size ≤ r ∧ w.heap.size ≤ fb ∧ w.heap.size ≤ g)) := Lib.hid ⟨hA, hk, hr, hfb, hg⟩
  clear hA hk hr hfb hg
  go_wp2_with fail
  obtain ⟨bb, hbb⟩ : ∃ b, b = y.heap.size := ⟨_, rfl⟩
  rw [← hbb]
  generalize hy2 : World.alloc y _ = y2
  have H2 : Hid (y2.heap[bb]? = some (.cells (u8s Zs).toArray 5 (0, 0)) ∧ Keep [] y y2 ∧ bb = y.heap.size) := Lib.hid (by
    subst hy2
    exact ⟨heap_alloc_at _ hbb, (Keep.refl _ _).alloc _, hbb⟩)
  clear hy2 hbb hmk
  go_loopw [8] (fun kv wr => ∃ k : Nat, kv = .int .i64 k ∧ k ≤ 2560 ∧ Hid (wr.heap[bb]? = some (.cells (u8s (List.replicate k (165 : Int) ++ List.replicate (2560 - k) 0)).toArray 5 (0, 0)) ∧ Keep [bb] y2 wr)) (fun kv _ => 2560 - (intOf kv).toNat)
  case atStart => exact ⟨0, rfl, by omega, Lib.hid ⟨by have := H2.out.1; rw [HZ.out] at this; simpa using this, Keep.refl _ _⟩⟩
  case round =>
    obtain ⟨k, rfl, hk1, HR⟩ := hrel
    rename World => wo
    by_cases hk2 : k < 2560
    · have hi : (k : Int) < 2560 := by omega
      have hi0 : (0 : Int) ≤ (k : Int) := by omega
      obtain ⟨v, hc⟩ : ∃ v, wo.cell? ⟨bb, k, none⟩ = some v := ⟨_, u8_cell_at HR.out.1 (k := k) (by simp; omega)⟩
      have hf := frozen_of HR.out.1 k
      have HT : Hid ((wo.setCell ⟨bb, k, none⟩ (.int .u8 165)).heap[bb]? = some (.cells (u8s (List.replicate (k + 1) (165 : Int) ++ List.replicate (2560 - (k + 1)) 0)).toArray 5 (0, 0)) ∧ Keep [bb] y2 (wo.setCell ⟨bb, k, none⟩ (.int .u8 165))) := Lib.hid (by
        refine ⟨?_, keepSet HR.out.2 (by simp) _ _⟩
        have := u8_set HR.out.1 k 165
        rw [fill_u8 k hk2] at this
        exact this)
      clear HZ
      go_wp2_with fail
      go_roundw
      case rel => exact ⟨k + 1, by go_num, by omega, HT⟩
      case measure => simp [intOf]; omega
    · have hk3 : k = 2560 := by omega
      subst hk3
      have HB : Hid (wo.heap[bb]? = some (.cells (u8s (List.replicate 2560 (165 : Int))).toArray 5 (0, 0)) ∧ Keep [bb] y2 wo) := Lib.hid (by
        have := HR.out
        simpa using this)
      clear HR hk1 hk2
      have hlt : r < bb ∧ fb < bb ∧ g < bb := by
        obtain ⟨_, h1, _⟩ := H1.out.1.head
        obtain ⟨_, h2, _⟩ := H1.out.1.rows
        have a := lt_of_heap h1
        have b := lt_of_heap h2
        have c := lt_of_heap H1.out.1.data
        have := H2.out.2.2
        omega
      have CF : Hid (Calls Try.prog 44 #[.pointer (some ⟨r, 0, none⟩), .int .u32 0, .slice (some ⟨bb, 0, none⟩) 2560 2560] wo (fun e w' => e = .returned (.bool true) ∧ RamAt w' r fb g (List.range 40) (List.replicate 2560 165) ∧ Keep [g] wo w')) := Lib.hid (by
        have hM : Row wo (some ⟨bb, 0, none⟩) (List.replicate 2560 (165 : Int)).length (List.replicate 2560 (165 : Int)) := RefAt.row ⟨.inr ⟨_, rfl, HB.out.1⟩, (by intro x hx; rw [List.eq_of_mem_replicate hx]; omega), by rw [List.length_replicate]; omega⟩
        have hR : RamAt wo r fb g (List.range 40) (List.replicate 2560 0) := (H1.out.1.keep0 H2.out.2.1).keep HB.out.2 (by simp; omega) (by simp; omega) (by simp; omega)
        have hF := fill_c hR (by rw [List.length_replicate]) (by omega) 0 hM (by intro b hb; cases hb; simp; omega) (by rw [List.length_replicate]; omega)
        rw [List.length_replicate] at hF
        refine hF.mono ?_
        rintro e w' ⟨h1, h2, h3⟩
        refine ⟨h1, ?_, h3⟩
        have e1 : splice (List.replicate 2560 (0 : Int)) 0 (List.replicate 2560 165) = List.replicate 2560 165 := by
          unfold splice
          rw [List.take_zero, List.nil_append, List.length_replicate, List.drop_replicate, Nat.zero_add, Nat.sub_self, List.replicate_zero, List.append_nil]
        rw [e1] at h2
        exact h2)
      go_wp2_with fail
      refine CF.out.mono ?_
      rintro e z ⟨rfl, hRz, hkz⟩
      have H3 : Hid (RamAt z r fb g (List.range 40) (List.replicate 2560 165) ∧ Keep [] w z) := Lib.hid (by
        refine ⟨hRz, ?_⟩
        have h1 := H1.out.2
        have h2 := H2.out
        exact (h1.1.trans h2.2.1).then (HB.out.2.weaken (l' := [bb, g]) (by simp)) (by have := h1.1.size; simp; omega) |>.then hkz (by simp; omega))
      clear hRz hkz CF
      go_wp2_with fail
      refine (pnew_good 20 most _ (by omega) (by omega) (by omega) (by omega)).mono ?_
      rintro e z2 ⟨p, pm, hp, hpm, rfl, hP, hk2⟩
      have H4 : Hid (PoolAt z2 p pm 20 most [] 0 0 ∧ Keep [] z z2 ∧ z.heap.size ≤ p ∧ z.heap.size ≤ pm) := Lib.hid ⟨hP, hk2, hp, hpm⟩
      clear hP hk2 hp hpm
      go_wp2_with fail
      have hN := snew_good (dir := 8) (p := p) (H3.out.1.keep0 H4.out.2.1) (by rw [List.length_replicate]) (by omega) (by omega)
      refine hN.mono ?_
      rintro e z3 ⟨s, hs, rfl, hS, hRs, hks⟩
      have HF : Hid (SMade most w (.returned (.tuple #[.pointer (some ⟨r, 0, none⟩), .pointer (some ⟨s, 0, none⟩), .pointer (some ⟨p, 0, none⟩)])) z3) := Lib.hid (by
        have h1 := H1.out.2.2
        have h4 := H4.out
        have hz := H4.out.2.1.size
        have hzw := H3.out.2.size
        have hlr : r < z.heap.size ∧ fb < z.heap.size ∧ g < z.heap.size := by
          obtain ⟨_, h1, _⟩ := H3.out.1.head
          obtain ⟨_, h2, _⟩ := H3.out.1.rows
          exact ⟨lt_of_heap h1, lt_of_heap h2, lt_of_heap H3.out.1.data⟩
        have hpl : p < z2.heap.size := lt_of_heap H4.out.1.1
        have hpl2 : pm < z2.heap.size := by
          obtain ⟨es, cl, h, _⟩ := H4.out.1.2
          exact lt_of_heap h
        refine ⟨r, fb, g, s, p, pm, rfl, ⟨hS, hRs, ShInv.first hm13, ⟨[], 0, 0, H4.out.1.keep hks (by simp; omega) (by simp; omega), by omega, fun z => ?_⟩, ⟨by omega, by omega, by omega, by omega, by omega⟩, by omega, by omega, by omega, by omega, by omega, by omega⟩, (H3.out.2.trans h4.2.1).then hks (by simp; omega), by omega, by omega, by omega, by omega, by omega, by omega⟩
        constructor
        · intro h; cases h
        · rintro ⟨m, _, h, _⟩; cases h)
      clear hS hRs hks hN hs
      go_wp2_with fail
      go_ret3
      exact HF.out
theorem SAt.mem {w : World} {s r fb g p pm most : Nat} {T : Nat → Tab} {L : List Int} {c : Nat} (h : SAt w s r fb g p pm most T L c) : Mem w (.pointer (some ⟨r, 0, none⟩)) 40 (rdOf 40 L) :=
  mem_of_ram h.ram h.inv.len (by omega)

theorem not_full {most : Nat} (h : 0 < most) : ¬ Full most (fun _ => tab0) := fun hf => by
  obtain ⟨m, _, h2, _⟩ := hf 0 h
  cases h2

set_option maxHeartbeats 4000000 in
theorem sworks_at (w : World) : Calls Try.prog 17 #[] w fun e w' => e = .returned (.bool true) ∧ Keep [] w w' := by
  go_enter Try.func17, Try.ntmps17
  go_wp2_with fail
  refine (smade_at 2 (by omega) _).mono ?_
  rintro e y ⟨r, fb, g, s, p, pm, rfl, hS, hk, hn⟩
  have H1 := Lib.hid (And.intro hS (And.intro hk hn))
  clear hS hk hn
  go_wp2_with fail
  refine (sput_at H1.out.1 (by omega) 65 3 2 (by omega) (by omega) (by omega) (by omega)).mono ?_
  rintro e z ⟨hk, hP⟩
  have hP2 : e = .returned (.bool true) ∧ ∃ T L, SAt z s r fb g p pm (2 % 13) T L 1 ∧ leads T 70 = 195 := by
    rcases hP with ⟨h, _⟩ | ⟨_, _, _, rfl, T1, L', hl, h⟩ | ⟨_, _, _, _, hf, _⟩
    · omega
    · refine ⟨rfl, _, L', h, ?_⟩
      have := hl.th
      unfold leads
      rw [if_pos ⟨by decide, by rw [show 70 / 1024 = 65 / 1024 by decide, setTab_same]; exact this⟩, show 70 / 1024 = 65 / 1024 by decide, setTab_same]
      rfl
    · exact absurd hf (not_full (by decide))
  obtain ⟨rfl, T, L, hS, hle⟩ := hP2
  have H2 := Lib.hid (And.intro hS (And.intro ((H1.out.2.1).then hk (by have := H1.out.2.2; simp; omega)) hle))
  have hL : Hid (∃ e d t, lookF (rdOf 40 L) 40 512 32 70 = some (3, 198, e, d, t, 3)) := Lib.hid (by
    rcases look_sh hS.inv 70 with ⟨h0, _⟩ | ⟨f, b, h1, h2, h3, h4, e, d, t, h5⟩
    · omega
    · obtain rfl : f = 3 := by omega
      obtain rfl : b = 3 := by omega
      exact ⟨e, d, t, h5⟩)
  clear hP hS hk hle
  go_wp2_with fail
  refine (sroot_at (dir := 8) H2.out.1.sh.heads.1 H2.out.1.sh.heads.2.2.1 (by omega)).mono ?_
  rintro e z1 ⟨rfl, rfl⟩
  go_wp2_with fail
  have hlk := look_at H2.out.1.mem 512 32 70 (by omega) (by omega) (by omega)
  obtain ⟨e', d, t, hle⟩ := hL.out
  rw [hle] at hlk
  clear hle
  refine hlk.mono ?_
  rintro e z2 ⟨rfl, hk2⟩
  have HF := Lib.hid (H2.out.2.1.trans hk2)
  clear hk2 hlk
  unfold wayV
  go_wp2_with fail
  go_ret
  exact ⟨rfl, HF.out.alloc _⟩
end Go.Proofs.Ytpinoejckagjbaa
