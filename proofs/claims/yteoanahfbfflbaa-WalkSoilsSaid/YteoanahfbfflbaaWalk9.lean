/- The statements' own trial: a way through two entries. -/
import Derived.Test.YteoanahfbfflbaaWalk8
namespace Go.Proofs.Yteoanahfbfflbaa
open Go.RowKit Go.Mum
set_option linter.unusedVariables false

theorem works_way : lookF (rdOf 4 (madeL 4 (([(0, 0, 1, 7), (1, 1, 2, 5)] : List Ent).take 64))) 4 0 16 65 = some (5, 129, 68, 0, 1, 2) := by decide +kernel

set_option maxRecDepth 100000 in
set_option maxHeartbeats 4000000 in
theorem works_at (w : World) : Calls Try.prog 33 #[] w fun e w' => e = .returned (.bool true) ∧ Keep [] w w' := by
  have HM : Hid (∀ (x : World) (b : Nat), EntAt x b 0 (0, 0, 1, 7) → EntAt x b 4 (1, 1, 2, 5) → Calls Try.prog 30 #[.int .u8 0, .slice (some ⟨b, 0, none⟩) 2 2] x (MadePostW 4 [(0, 0, 1, 7), (1, 1, 2, 5)] x)) := Lib.hid (by
    intro x b h0 h1
    have := wmade_at (w := x) (s := some ⟨b, 0, none⟩) (c := 2) (es := [(0, 0, 1, 7), (1, 1, 2, 5)]) (.inr ⟨b, 0, rfl, by have := World.block_lt_of_cell? x _ h0.c0; simpa using this, fun i hi => ?_⟩) (by decide) 0 (by decide)
    · simpa using this
    · match i, hi with
      | 0, _ => exact h0
      | 1, _ => exact h1)
  go_enter Try.func33, Try.ntmps33
  go_wp2_with fail
  have hba : ∀ o : Obj, w.heap.size ∉ ([] : List Nat) := fun _ => by simp
  generalize hx : w.alloc _ = x
  have HX : Hid (Keep [] w x ∧ EntAt x w.heap.size 0 (0, 0, 1, 7) ∧ EntAt x w.heap.size 4 (1, 1, 2, 5)) := Lib.hid (by
    subst hx
    have hs := fun o => heap_alloc_same w o
    exact ⟨(Keep.refl [] w).alloc _, ⟨cell_of (hs _) 0 rfl, cell_of (hs _) 1 rfl, cell_of (hs _) 2 rfl, cell_of (hs _) 3 rfl, by decide, by decide, by decide, by decide⟩, ⟨cell_of (hs _) 4 rfl, cell_of (hs _) 5 rfl, cell_of (hs _) 6 rfl, cell_of (hs _) 7 rfl, by decide, by decide, by decide, by decide⟩⟩)
  clear hx
  refine (HM.out x _ HX.out.2.1 HX.out.2.2).mono ?_
  rintro e y ⟨r, fb, g, q, hr, hfb, hg, hq, rfl, hB, hK⟩
  have HY := Lib.hid (And.intro hB (HX.out.1.trans hK))
  clear hB hK hr hfb hg hq HX
  have HL : Hid (∀ z, Keep [] y z → Calls Try.prog 31 #[.pointer (some ⟨r, 0, none⟩), .int .u32 0, .int .i64 16, .int .u32 65] z fun e w' => e = .returned (.tuple #[.agg #[.int .u32 5, .int .u32 129, .int .u32 68, .int .i64 0, .int .i64 1, .int .i64 2], .bool true]) ∧ Keep [] z w') := Lib.hid (fun z hz => by
    have := look_at (HY.out.1.keep0 hz).mem 0 16 65 (by decide) (by decide) (by decide)
    rw [works_way] at this
    exact this)
  have HK0 : Hid (∀ o, Keep [] w (y.alloc o)) := Lib.hid fun o => HY.out.2.alloc o
  go_wp2_with fail
  refine (HL.out _ ((Keep.refl [] y).alloc _)).mono ?_
  rintro e z ⟨rfl, hK⟩
  have HK := Lib.hid ((HK0.out _).trans hK)
  clear hK
  have HKa : Hid (∀ o, Keep [] w (z.alloc o)) := Lib.hid fun o => HK.out.alloc o
  go_wp2_with fail
  go_ret
  exact ⟨rfl, HKa.out _⟩
end Go.Proofs.Yteoanahfbfflbaa
