/- Have both memories the same bytes? -/
import Derived.Test.YteoanahfbfflbaaRamP4
import Derived.Outline
namespace Go.Proofs.Yteoanahfbfflbaa
open Go.RowKit Go.Mum

/-- How bytes read as a string. -/
def Str (x : World) (a : Option Addr) (k c : Nat) (M : List Int) : Prop := (convert 30 9 (.slice a k c)).run Try.prog x = .ok (.string (strOfNums M)) x
theorem str_of {x : World} {a : Option Addr} {k c : Nat} {M : List Int} (h : Row x a c M) (hk : k = M.length) : Str x a k c M := run_string (P := Try.prog) Try.underlying30 Try.underlying5 h k hk _ Try.underlying9

theorem frameOf_range {n k : Nat} (L : List Int) (hk : k < n) : frameOf (List.range n) L k = (L.drop (64 * k)).take 64 := by
  unfold frameOf
  simp [List.getD, List.getElem?_range hk]

/-- The answer is true, and nothing that was there has been turned. -/
def True1 (w : World) (e : Ending) (w' : World) : Prop := e = .returned (.bool true) ∧ Keep [] w w'

set_option maxRecDepth 100000 in
set_option maxHeartbeats 4000000 in
theorem same_at {w : World} {r fb g q n : Nat} {L : List Int} (h : Both w r fb g q n L) :
    Calls Try.prog 28 #[.pointer (some ⟨r, 0, none⟩), .agg #[.slice (some ⟨q, 0, none⟩) (64 * n) (64 * n)]] w (True1 w) := by
  have hl := h.len
  have hn := h.n1
  have H := Lib.hid h
  have hd : 64 * (n : Int) / 64 = (n : Int) := by omega
  clear h
  go_enter Try.func28, Try.ntmps28
  go_wp2_with fail
  go_loopw [6] (fun kv wr => ∃ k : Nat, kv = .int .i64 k ∧ k ≤ n ∧ Keep [] w wr ∧ wr.cell? ⟨w.heap.size, 0, none⟩ = some (.slice (some ⟨q, 0, none⟩) (64 * n) (64 * n))) (fun kv _ => n - (intOf kv).toNat)
  case atStart => exact ⟨0, rfl, by omega, (Keep.refl _ _).alloc _, cell_of (heap_alloc_same w _) 0 rfl⟩
  case round =>
    obtain ⟨k, rfl, hk, hK, hcb⟩ := hrel
    have HK := Lib.hid (And.intro hK hcb)
    by_cases hlt : k < n
    · have F1 := rframe_yes (H.out.ram.keep0 (hK.drew)) k (by rw [List.length_range]; exact hlt)
      rw [frameOf_range L hlt] at F1
      have F2 : ∀ x, Keep [] w x → Calls Try.prog 36 #[.agg #[.slice (some ⟨q, 0, none⟩) (64 * n) (64 * n)], .int .i64 k] x (RowPost ((L.drop (64 * k)).take 64) x) := fun x hx => by
        have := fframe_yes (H.out.ref.keep0 hx) k (by omega)
        rw [hl] at this
        exact this
      have hml : ((L.drop (64 * k)).take 64).length = 64 := by rw [List.length_take, List.length_drop]; omega
      generalize (L.drop (64 * k)).take 64 = M at F1 F2 hml
      have HF := Lib.hid (And.intro F1 (And.intro F2 hml))
      clear F1 F2 hml hK
      go_wp2_with fail
      refine wp_region_held_drew (S := fun x => Keep [] wr x ∧ x.cell? ⟨w.heap.size, 0, none⟩ = some (.slice (some ⟨q, 0, none⟩) (64 * n) (64 * n))) (by kernel_rfl) ⟨(Keep.refl [] wr).drew, hcb⟩ (fun hHeld => ?_)
      skip
      refine wpAnyH_take (i := 0) (oi := { dst := some 16, op := Op.move (Operand.tmp 0), type := 22, pos := "law.go:51", after := #[], guard := none }) (v := ?_) rfl (by kernel_rfl) (by kernel_rfl) (by kernel_rfl) (fun _ _ _ h => h) (Or.inl ⟨by rfl, ?_⟩) (by assumption) ?_
      rotate_left
      focus (intro w hSw; (try dsimp only at hSw); go_simp <;> with_reducible rfl)
      try simp only [Act.put, List.setIfInBounds_toArray, List.set_cons_zero, List.set_cons_succ]
      refine wpAnyH_take (i := 1) (oi := { dst := some 17, op := Op.move (Operand.tmp 6), type := 3, pos := "law.go:51", after := #[], guard := none }) (v := ?_) rfl (by kernel_rfl) (by kernel_rfl) (by kernel_rfl) (fun _ _ _ h => h) (Or.inl ⟨by rfl, ?_⟩) (by assumption) ?_
      rotate_left
      focus (intro w hSw; (try dsimp only at hSw); go_simp <;> with_reducible rfl)
      try simp only [Act.put, List.setIfInBounds_toArray, List.set_cons_zero, List.set_cons_succ]
      refine wpAnyH_take (i := 4) (oi := { dst := some 20, op := Op.load 35 (Operand.tmp 3), type := 35, pos := "law.go:51", after := #[], guard := none }) (v := ?_) rfl (by kernel_rfl) (by kernel_rfl) (by kernel_rfl) (fun _ _ _ h => h) (Or.inl ⟨by rfl, ?_⟩) (by assumption) ?_
      rotate_left
      focus (intro w hSw; (try dsimp only at hSw); go_simp <;> with_reducible rfl)
      try simp only [Act.put, List.setIfInBounds_toArray, List.set_cons_zero, List.set_cons_succ]
      refine wpAnyH_take (i := 5) (oi := { dst := some 21, op := Op.move (Operand.tmp 6), type := 3, pos := "law.go:51", after := #[], guard := none }) (v := ?_) rfl (by kernel_rfl) (by kernel_rfl) (by kernel_rfl) (fun _ _ _ h => h) (Or.inl ⟨by rfl, ?_⟩) (by assumption) ?_
      rotate_left
      focus (intro w hSw; (try dsimp only at hSw); go_simp <;> with_reducible rfl)
      try simp only [Act.put, List.setIfInBounds_toArray, List.set_cons_zero, List.set_cons_succ]
      refine wpAnyH_ready (rs := [2]) (by kernel_rfl) (by simp) ?_
      refine AllReadyH.cons (o := { dst := some 18, op := Op.call { callee := Callee.value (Operand.func 20), args := #[Operand.tmp 16, Operand.tmp 17], argTypes := #[22, 3] }, type := 30, pos := "law.go:51", after := #[{ on := 0, ground := Ground.data }, { on := 1, ground := Ground.data }], guard := none }) rfl (fun K hK => ?_) AllReadyH.nil
      go_simp
      refine HF.out.1.mono ?_
      rintro e y1 hp1
      obtain ⟨b1, c1, rfl, hR1, hK1⟩ := rowPost_own hp1
      rw [HF.out.2.2]
      go_wp2_with fail
      have hq := Lib.hid (And.intro hR1 (hHeld.1.trans hK1))
      clear hp1 hR1
      refine shut_grow (fun x => (Keep [] wr x ∧ x.cell? ⟨w.heap.size, 0, none⟩ = some (.slice (some ⟨q, 0, none⟩) (64 * n) (64 * n))) ∧ (convert 30 9 (.slice b1 64 c1)).run Try.prog x = .ok (.string (strOfNums M)) x) hK (fun _ h => h.1) ⟨⟨hq.out.2, hK1.cell hHeld.2 (by simp)⟩, str_of hq.out.1 HF.out.2.2.symm⟩ (fun hHeld => ?_)
      clear hK K
      refine wpAnyH_take (i := 3) (oi := { dst := some 19, op := Op.convert 30 9 (Operand.tmp 18), type := 9, pos := "law.go:51", after := #[{ on := 2, ground := Ground.data }], guard := none }) (v := ?_) rfl (by kernel_rfl) (by kernel_rfl) (by kernel_rfl) (fun _ _ _ h => h) (Or.inl ⟨by rfl, ?_⟩) (by assumption) ?_
      rotate_left
      focus (intro w hSw; (try dsimp only at hSw); go_simp <;> with_reducible rfl)
      try simp only [Act.put, List.setIfInBounds_toArray, List.set_cons_zero, List.set_cons_succ]
      refine wpAnyH_ready (rs := [6]) (by kernel_rfl) (by simp) ?_
      refine AllReadyH.cons (o := { dst := some 22, op := Op.call { callee := Callee.value (Operand.func 36), args := #[Operand.tmp 20, Operand.tmp 21], argTypes := #[35, 3] }, type := 30, pos := "law.go:51", after := #[{ on := 4, ground := Ground.data }, { on := 5, ground := Ground.data }, { on := 2, ground := Ground.chain }], guard := none }) rfl (fun K hK => ?_) AllReadyH.nil
      go_simp
      refine (HF.out.2.1 _ (HK.out.1.trans hHeld.1.1)).mono ?_
      rintro e y2 ⟨b2, c2, rfl, hR2, hK2⟩
      rw [HF.out.2.2]
      go_wp2_with fail
      have hp := Lib.hid (And.intro (hHeld.1.1.trans hK2) (hK2.cell hHeld.1.2 (by simp)))
      refine shut_grow (fun x => x = y2 ∧ (convert 30 9 (.slice b1 64 c1)).run Try.prog x = .ok (.string (strOfNums M)) x ∧ (convert 30 9 (.slice b2 64 c2)).run Try.prog x = .ok (.string (strOfNums M)) x) hK (fun x h => ⟨by rw [h.1]; exact hp.out, h.2.1⟩) ⟨rfl, str_of (hq.out.1.keep0 hK2) HF.out.2.2.symm, str_of hR2 HF.out.2.2.symm⟩ (fun hHeld => ?_)
      clear hK K
      refine wpAnyH_take (i := 7) (oi := { dst := some 23, op := Op.convert 30 9 (Operand.tmp 22), type := 9, pos := "law.go:51", after := #[{ on := 6, ground := Ground.data }], guard := none }) (v := ?_) rfl (by kernel_rfl) (by kernel_rfl) (by kernel_rfl) (fun _ _ _ h => h) (Or.inl ⟨by rfl, ?_⟩) (by assumption) ?_
      rotate_left
      focus (intro w hSw; (try dsimp only at hSw); go_simp <;> with_reducible rfl)
      try simp only [Act.put, List.setIfInBounds_toArray, List.set_cons_zero, List.set_cons_succ]
      refine wpAnyH_take (i := 8) (oi := { dst := some 24, op := Op.binOp BinOp.neq 9 (Operand.tmp 19) (Operand.tmp 23) 9, type := 4, pos := "law.go:51", after := #[{ on := 3, ground := Ground.data }, { on := 7, ground := Ground.data }], guard := none }) (v := ?_) rfl (by kernel_rfl) (by kernel_rfl) (by kernel_rfl) (fun _ _ _ h => h) (Or.inl ⟨by rfl, ?_⟩) (by assumption) ?_
      rotate_left
      focus (intro w hSw; (try dsimp only at hSw); go_simp <;> with_reducible rfl)
      try simp only [Act.put, List.setIfInBounds_toArray, List.set_cons_zero, List.set_cons_succ]
      refine wpAnyH_done (by kernel_rfl) ?_ _
      clear hHeld hK1 hK2
      go_wp2_with fail
      go_roundw
      case rel => exact ⟨k + 1, by go_num, by omega, HK.out.1.trans hp.out.1, hp.out.2⟩
      case measure => simp [intOf]; omega
    · obtain rfl : k = n := by omega
      have D := rsize_any (H.out.ram.keep0 hK).sz
      rw [List.length_range] at D
      have hB := H.out.keep0 hK
      have F1 : ∀ (z : Int) m, -1 ≤ z → z ≤ 16 → (z < 0 ∨ (k : Int) ≤ z) → Calls Try.prog 20 #[.pointer (some ⟨r, 0, none⟩), .int .i64 z] (wr.drewN m) fun e w' => e = .returned (.slice none 0 0) ∧ (wr.drewN m) = w' := fun z m h1 h2 h3 => rframe_no (hB.ram.keep0 ((Keep.refl [] wr).drewN m)).sz z (by omega) (by omega) (by rw [List.length_range]; exact h3)
      have D : ∀ m, Calls Try.prog 18 #[.pointer (some ⟨r, 0, none⟩)] (wr.drewN m) fun e w' => e = .returned (.int .u32 (64 * (k : Int))) ∧ (wr.drewN m) = w' := fun m => by
        have := rsize_any (hB.ram.keep0 ((Keep.refl [] wr).drewN m)).sz
        rw [List.length_range] at this
        exact this
      have HD := Lib.hid (And.intro D F1)
      have hw : IntKind.u32.wrap (64 * (k : Int)) = 64 * (k : Int) := by rw [IntKind.wrap_u32]; omega
      clear D F1 hB
      go_wp2_with fail
      go_quiet (first | (go_at_call 18; exact quiet_same (HD.out.1 _)) | (go_at_call 20; exact quiet_same (HD.out.2 _ _ (by omega) (by omega) (by omega))))
      go_wp2_with fail
      go_ret
      exact ⟨rfl, hK.drewN _⟩
end Go.Proofs.Yteoanahfbfflbaa
