/- An entry is soiled. -/
import Derived.Test.YteoanahfbfflbaaWalkB
import Derived.Test.YteoanahfbfflbaaWalk5
namespace Go.Proofs.Yteoanahfbfflbaa
open Go.RowKit Go.Mum
set_option linter.unusedVariables false

/-- Is the entry soiled by this; and the bytes behind it. -/
def soilB (rd : Nat → Option Nat) (a : Nat) : Bool := match rd a with | none => false | some z => decide (z / 16 % 2 = 0)
def soilL (n : Nat) (L : List Int) (a : Nat) : List Int := match rdOf n L a with | none => L | some z => if z / 16 % 2 = 0 then laid n L a (le4 (z + 16)) 4 else L

theorem rd_lay {n a z : Nat} {L : List Int} (h : rdOf n L a = some z) : layB n a (le4 (z + 16)).length 4 = true := by
  unfold rdOf at h
  split at h
  · assumption
  · cases h

def SoilPostR (r fb g n : Nat) (L : List Int) (a : Nat) (w : World) (e : Ending) (w' : World) : Prop :=
  e = .returned (.bool (soilB (rdOf n L) a)) ∧ RamAt w' r fb g (List.range n) (soilL n L a) ∧ Keep [g] w w'

set_option maxRecDepth 100000 in
set_option maxHeartbeats 4000000 in
theorem soil_at {w : World} {r fb g q n : Nat} {L : List Int} (h : Both w r fb g q n L) (a : Nat) (ha : a < 4294967296) :
    Calls Try.prog 37 #[.pointer (some ⟨r, 0, none⟩), .int .u32 a] w (SoilPostR r fb g n L a w) := by
  have C := Lib.hid (h.mem.word w (Keep.refl _ _) a ha)
  have HB := Lib.hid h
  have hlt := h.mem.lt a
  clear h
  unfold SoilPostR soilB soilL
  cases hz : rdOf n L a with
  | none =>
    rw [hz] at C
    clear hlt hz
    go_enter Try.func37, Try.ntmps37
    go_wp2_with fail
    refine C.out.mono ?_
    rintro e y ⟨rfl, hK⟩
    have HK := Lib.hid hK
    clear hK
    go_wp2_with fail
    go_ret
    exact ⟨rfl, HB.out.ram.keep0 HK.out, HK.out.weaken (by simp)⟩
  | some z =>
    have hz32 := hlt z hz
    have hly := rd_lay hz
    rw [hz] at C
    simp only [Option.getD_some, Option.isSome_some] at C
    clear hlt hz
    by_cases hd : z / 16 % 2 = 0
    · have hb : bits .and .u32 (z : Int) 16 = 0 := bit0 (i := 4) hz32 rfl (by decide) hd
      have ho : bits .or .u32 (z : Int) 16 = ((z + 16 : Nat) : Int) := by
        have := or_u32 z 16 hz32 (by decide)
        rw [show z ||| 16 = z + 16 from or_bit z 4 (by decide) hz32 hd] at this
        exact this
      have hz16 : z + 16 < 4294967296 := by omega
      simp only [if_pos hd, decide_eq_true hd]
      generalize hs : z + 16 = s at ho hz16 hly ⊢
      have HS : Hid (∀ x, Keep [] w x → Calls Try.prog 25 #[.pointer (some ⟨r, 0, none⟩), .int .u32 a, .int .u32 s] x (RPost r fb g n L a (le4 s) 4 x)) := Lib.hid fun x hx => bsetword_r (HB.out.keep0 hx) a ha s hz16
      have Hly := Lib.hid hly
      clear hs hly hd
      go_enter Try.func37, Try.ntmps37
      go_wp2_with fail
      refine C.out.mono ?_
      rintro e y ⟨rfl, hK⟩
      have HK := Lib.hid hK
      clear hK
      go_wp2_with fail
      refine (HS.out _ HK.out).mono ?_
      rintro e x ⟨rfl, hR, hK⟩
      rw [Hly.out]
      have HR := Lib.hid (And.intro hR ((HK.out.weaken (l' := [g]) (by simp)).trans hK))
      clear hR hK
      go_wp2_with fail
      go_ret
      exact ⟨rfl, HR.out⟩
    · have hb : bits .and .u32 (z : Int) 16 = 16 := bit1 (i := 4) hz32 rfl (by decide) hd
      simp only [if_neg hd, decide_eq_false hd]
      clear hly hd
      go_enter Try.func37, Try.ntmps37
      go_wp2_with fail
      refine C.out.mono ?_
      rintro e y ⟨rfl, hK⟩
      have HK := Lib.hid hK
      clear hK
      go_wp2_with fail
      go_ret
      exact ⟨rfl, HB.out.ram.keep0 HK.out, HK.out.weaken (by simp)⟩

def SoilPostD (q n : Nat) (L : List Int) (a : Nat) (w : World) (e : Ending) (w' : World) : Prop :=
  e = .returned (.bool (soilB (rdOf n L) a)) ∧ RefAt w' (some ⟨q, 0, none⟩) (soilL n L a) ∧ Keep [q] w w'

set_option maxRecDepth 100000 in
set_option maxHeartbeats 4000000 in
theorem rsoil_at {w : World} {q n : Nat} {L : List Int} (h : RefN w q n L) (a : Nat) (ha : a < 4294967296) :
    Calls Try.prog 38 #[.agg #[.slice (some ⟨q, 0, none⟩) (64 * n) (64 * n)], .int .u32 a] w (SoilPostD q n L a w) := by
  obtain ⟨e1, e2⟩ := wordAt_rd h.ref.2.1 h.len a
  have C := fun x (hx : Keep [] w x) => bword_d (RefN.mk (h.ref.keep hx (by simp)) h.len) a ha
  rw [e1, e2] at C
  have C := Lib.hid C
  have HB := Lib.hid h
  have hlt := fun z (hz : rdOf n L a = some z) => rdOf_lt h.ref.2.1 h.len hz
  have hK0 : ∀ o, Keep [] w (w.alloc o) := fun o => (Keep.refl _ _).alloc o
  have HK0 := Lib.hid hK0
  clear h e1 e2 hK0
  unfold SoilPostD soilB soilL
  cases hz : rdOf n L a with
  | none =>
    rw [hz] at C
    simp only [Option.getD_none, Option.isSome_none] at C
    clear hlt hz
    go_enter Try.func38, Try.ntmps38
    go_wp2_with fail
    refine (C.out _ (HK0.out _)).mono ?_
    rintro e y ⟨rfl, hK⟩
    have HK := Lib.hid ((HK0.out _).trans hK)
    clear hK
    go_wp2_with fail
    go_ret
    exact ⟨rfl, HB.out.ref.keep HK.out (by simp), HK.out.weaken (by simp)⟩
  | some z =>
    have hz32 := hlt z hz
    have hly := rd_lay hz
    rw [hz] at C
    simp only [Option.getD_some, Option.isSome_some] at C
    clear hlt hz
    have H16 := fun x => has_at z 16 hz32 (by omega) (by omega) x
    by_cases hd : z / 16 % 2 = 0
    · have hhb : hasB z 16 = false := decide_eq_false (by omega)
      rw [hhb] at H16
      have H16 := Lib.hid H16
      have hz16 : z + 16 < 4294967296 := by omega
      have hzs : (z : Int) + 16 = ((z + 16 : Nat) : Int) := by omega
      have HS := fun x (hx : Keep [] w x) => bsetword_d (RefN.mk (HB.out.ref.keep hx (by simp)) HB.out.len) a ha (z + 16) hz16
      rw [← hzs] at HS
      have HS := Lib.hid HS
      have Hly := Lib.hid hly
      simp only [if_pos hd, decide_eq_true hd]
      clear hly hd hhb hzs
      go_enter Try.func38, Try.ntmps38
      go_wp2_with fail
      refine (C.out _ (HK0.out _)).mono ?_
      rintro e y ⟨rfl, hK⟩
      have hc : y.cell? ⟨w.heap.size, 0, none⟩ = some (.slice (some ⟨q, 0, none⟩) (64 * n) (64 * n)) := hK.cell (cell_of (heap_alloc_same w _) 0 rfl) (by simp)
      have HK := Lib.hid ((HK0.out _).trans hK)
      clear hK
      go_wp2_with fail
      refine (H16.out _).mono ?_
      rintro e y' ⟨rfl, rfl⟩
      go_wp2_with fail
      refine (HS.out _ HK.out).mono ?_
      rintro e x ⟨rfl, hR, hK⟩
      rw [Hly.out]
      have HR := Lib.hid (And.intro hR ((HK.out.weaken (l' := [q]) (by simp)).trans hK))
      clear hR hK hc
      go_wp2_with fail
      go_ret
      exact ⟨rfl, HR.out⟩
    · have hhb : hasB z 16 = true := decide_eq_true (by omega)
      rw [hhb] at H16
      have H16 := Lib.hid H16
      simp only [if_neg hd, decide_eq_false hd]
      clear hly hd hhb
      go_enter Try.func38, Try.ntmps38
      go_wp2_with fail
      refine (C.out _ (HK0.out _)).mono ?_
      rintro e y ⟨rfl, hK⟩
      have HK := Lib.hid ((HK0.out _).trans hK)
      clear hK
      go_wp2_with fail
      refine (H16.out _).mono ?_
      rintro e y' ⟨rfl, rfl⟩
      go_wp2_with fail
      go_ret
      exact ⟨rfl, HB.out.ref.keep HK.out (by simp), HK.out.weaken (by simp)⟩
end Go.Proofs.Yteoanahfbfflbaa
