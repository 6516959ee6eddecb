/- The law WireRows, walked. -/
import Derived.Test.YtffpccijmgjofaaWire3
namespace Go.Proofs.Ytffpccijmgjofaa
open Go.RowKit Go.Mum

/-- 'string(row)' in this world is these bytes. -/
def Str (x : World) (a : Option Addr) (k c : Nat) (M : List Int) : Prop := (convert 22 9 (.slice a k c)).run Try.prog x = .ok (.string (strOfNums M)) x
theorem str_of {x : World} {a : Option Addr} {k c : Nat} {M : List Int} (h : Row x a c M) (hk : k = M.length) : Str x a k c M := run_string (P := Try.prog) Try.underlying22 Try.underlying5 h k hk _ Try.underlying9

set_option maxRecDepth 100000 in
set_option maxHeartbeats 4000000 in
theorem WireRows_walk (s0 : Option Addr) (len0 cap0 n0 : Nat) (s1 : Option Addr) (len1 cap1 n1 : Nat) (a2 : Int) (w : World) (w0 : Fits Try.prog w 1048576 n0 22 [.slice s0 len0 cap0]) (w1 : Fits Try.prog w 1048576 n1 22 [.slice s1 len1 cap1]) (w2 : (Lit.int .i64 a2).wf = true) :
    Calls Try.prog 7 #[.slice s0 len0 cap0, .slice s1 len1 cap1, .int .i64 a2] w fun e w' => e = .returned (.bool true) ∧ Below w.heap.size w w' := by
  obtain ⟨L, rfl, hR, hl⟩ := row_of_fits w0
  obtain ⟨M, rfl, hR1, hl1⟩ := row_of_fits w1
  have hb := wf_i64 w2
  have hlL : L.length ≤ 1048576 := by omega
  have hlM : M.length ≤ 1048576 := by omega
  have hN := number_len10 (n := M.length) (by omega)
  have HL := Lib.hid (And.intro hR (And.intro hR1 (And.intro hb (And.intro (show L.length ≤ 4294967296 by omega) (show M.length ≤ 4294967296 by omega)))))
  have hsum : strOfNums (L ++ (number M.length ++ M)) = strOfNums L ++ strOfNums (number M.length) ++ strOfNums M := by rw [strOfNums_append, strOfNums_append, ByteArray.append_assoc]
  have hbig : (9223372036854775807 < (strOfNums L).size + (strOfNums (number M.length)).size) = False := by
    simp only [strOfNums_size, eq_iff_iff, iff_false]
    omega
  have hbig2 : (9223372036854775807 < (strOfNums L ++ strOfNums (number M.length)).size + (strOfNums M).size) = False := by
    rw [← strOfNums_append]
    simp only [strOfNums_size, eq_iff_iff, iff_false, List.length_append]
    omega
  have hbig3 : (9223372036854775807 < (strOfNums L).size + (strOfNums (number M.length)).size + (strOfNums M).size) = False := by
    simp only [strOfNums_size, eq_iff_iff, iff_false]
    omega
  have hw : IntKind.u64.wrap (M.length : Int) = (M.length : Int) := by rw [IntKind.wrap_u64]; omega
  clear w0 w1 w2 hl hl1 hR hR1 hb
  go_enter Try.func7, Try.ntmps7
  go_wp2_with fail
  skip
  refine wp_region_held_drew (S := fun x => Keep [] w x ∧ (convert 22 9 (.slice s0 L.length cap0)).run Try.prog x = .ok (.string (strOfNums L)) x ∧ (convert 22 9 (.slice s1 M.length cap1)).run Try.prog x = .ok (.string (strOfNums M)) x) (by kernel_rfl) ⟨(Keep.refl [] w).drew, str_of (HL.out.1.keep0 (Keep.refl [] w).drew) rfl, str_of (HL.out.2.1.keep0 (Keep.refl [] w).drew) rfl⟩ (fun hHeld => ?_)
  refine wpAnyH_take (i := 0) (oi := { dst := some 13, op := Op.move (Operand.tmp 0), type := 22, pos := "law.go:27", after := #[], guard := none }) (v := ?_) rfl (by kernel_rfl) (by kernel_rfl) (by kernel_rfl) (fun _ _ _ h => h) (Or.inl ⟨by rfl, ?_⟩) (by assumption) ?_
  rotate_left
  focus (intro w hSw; (try dsimp only at hSw); go_simp <;> with_reducible rfl)
  try simp only [Act.put, List.setIfInBounds_toArray, List.set_cons_zero, List.set_cons_succ]
  refine wpAnyH_take (i := 1) (oi := { dst := some 14, op := Op.move (Operand.tmp 1), type := 22, pos := "law.go:27", after := #[], guard := none }) (v := ?_) rfl (by kernel_rfl) (by kernel_rfl) (by kernel_rfl) (fun _ _ _ h => h) (Or.inl ⟨by rfl, ?_⟩) (by assumption) ?_
  rotate_left
  focus (intro w hSw; (try dsimp only at hSw); go_simp <;> with_reducible rfl)
  try simp only [Act.put, List.setIfInBounds_toArray, List.set_cons_zero, List.set_cons_succ]
  refine wpAnyH_take (i := 4) (oi := { dst := some 17, op := Op.move (Operand.tmp 0), type := 22, pos := "law.go:27", after := #[], guard := none }) (v := ?_) rfl (by kernel_rfl) (by kernel_rfl) (by kernel_rfl) (fun _ _ _ h => h) (Or.inl ⟨by rfl, ?_⟩) (by assumption) ?_
  rotate_left
  focus (intro w hSw; (try dsimp only at hSw); go_simp <;> with_reducible rfl)
  try simp only [Act.put, List.setIfInBounds_toArray, List.set_cons_zero, List.set_cons_succ]
  refine wpAnyH_take (i := 5) (oi := { dst := some 18, op := Op.convert 22 9 (Operand.tmp 17), type := 9, pos := "law.go:27", after := #[{ on := 4, ground := Ground.data }], guard := none }) (v := ?_) rfl (by kernel_rfl) (by kernel_rfl) (by kernel_rfl) (fun _ _ _ h => h) (Or.inl ⟨by rfl, ?_⟩) (by assumption) ?_
  rotate_left
  focus (intro w hSw; (try dsimp only at hSw); go_simp <;> with_reducible rfl)
  try simp only [Act.put, List.setIfInBounds_toArray, List.set_cons_zero, List.set_cons_succ]
  refine wpAnyH_take (i := 6) (oi := { dst := some 19, op := Op.move (Operand.tmp 1), type := 22, pos := "law.go:27", after := #[], guard := none }) (v := ?_) rfl (by kernel_rfl) (by kernel_rfl) (by kernel_rfl) (fun _ _ _ h => h) (Or.inl ⟨by rfl, ?_⟩) (by assumption) ?_
  rotate_left
  focus (intro w hSw; (try dsimp only at hSw); go_simp <;> with_reducible rfl)
  try simp only [Act.put, List.setIfInBounds_toArray, List.set_cons_zero, List.set_cons_succ]
  refine wpAnyH_take (i := 7) (oi := { dst := some 20, op := Op.call { callee := Callee.builtin Builtin.len, args := #[Operand.tmp 19], argTypes := #[22] }, type := 3, pos := "law.go:27", after := #[{ on := 6, ground := Ground.data }], guard := none }) (v := ?_) rfl (by kernel_rfl) (by kernel_rfl) (by kernel_rfl) (fun _ _ _ h => h) (Or.inl ⟨by rfl, ?_⟩) (by assumption) ?_
  rotate_left
  focus (intro w hSw; (try dsimp only at hSw); go_simp <;> with_reducible rfl)
  try simp only [Act.put, List.setIfInBounds_toArray, List.set_cons_zero, List.set_cons_succ]
  refine wpAnyH_take (i := 8) (oi := { dst := some 21, op := Op.convert 3 23 (Operand.tmp 20), type := 23, pos := "law.go:27", after := #[{ on := 7, ground := Ground.data }], guard := none }) (v := ?_) rfl (by kernel_rfl) (by kernel_rfl) (by kernel_rfl) (fun _ _ _ h => h) (Or.inl ⟨by rfl, ?_⟩) (by assumption) ?_
  rotate_left
  focus (intro w hSw; (try dsimp only at hSw); go_simp <;> with_reducible rfl)
  try simp only [Act.put, List.setIfInBounds_toArray, List.set_cons_zero, List.set_cons_succ]
  refine wpAnyH_take (i := 12) (oi := { dst := some 25, op := Op.move (Operand.tmp 1), type := 22, pos := "law.go:27", after := #[], guard := none }) (v := ?_) rfl (by kernel_rfl) (by kernel_rfl) (by kernel_rfl) (fun _ _ _ h => h) (Or.inl ⟨by rfl, ?_⟩) (by assumption) ?_
  rotate_left
  focus (intro w hSw; (try dsimp only at hSw); go_simp <;> with_reducible rfl)
  try simp only [Act.put, List.setIfInBounds_toArray, List.set_cons_zero, List.set_cons_succ]
  refine wpAnyH_take (i := 13) (oi := { dst := some 26, op := Op.convert 22 9 (Operand.tmp 25), type := 9, pos := "law.go:27", after := #[{ on := 12, ground := Ground.data }], guard := none }) (v := ?_) rfl (by kernel_rfl) (by kernel_rfl) (by kernel_rfl) (fun _ _ _ h => h) (Or.inl ⟨by rfl, ?_⟩) (by assumption) ?_
  rotate_left
  focus (intro w hSw; (try dsimp only at hSw); go_simp <;> with_reducible rfl)
  try simp only [Act.put, List.setIfInBounds_toArray, List.set_cons_zero, List.set_cons_succ]
  refine wpAnyH_ready (rs := [2]) (by kernel_rfl) (by simp) ?_
  refine AllReadyH.cons (o := { dst := some 15, op := Op.call { callee := Callee.value (Operand.func 18), args := #[Operand.tmp 13, Operand.tmp 14], argTypes := #[22, 22] }, type := 22, pos := "law.go:27", after := #[{ on := 0, ground := Ground.data }, { on := 1, ground := Ground.data }], guard := none }) rfl (fun K hK => ?_) AllReadyH.nil
  go_simp
  refine (putB_at (HL.out.1.keep0 hHeld.1) (HL.out.2.1.keep0 hHeld.1) HL.out.2.2.2.1 HL.out.2.2.2.2).mono ?_
  rintro e y1 ⟨v1, rfl, hO1, hK1⟩
  obtain ⟨b1, c1, hv1, hR1⟩ := hO1.shape
  rw [List.length_append, List.length_append] at hv1
  subst hv1
  go_wp2_with fail
  have hq := Lib.hid (And.intro hR1 (hHeld.1.trans hK1))
  clear hO1 hHeld hR1
  refine shut_grow (fun x => Keep [] w x ∧ ((convert 22 9 (.slice s0 L.length cap0)).run Try.prog x = .ok (.string (strOfNums L)) x ∧ (convert 22 9 (.slice s1 M.length cap1)).run Try.prog x = .ok (.string (strOfNums M)) x) ∧ (convert 22 9 (.slice b1 (L.length + (number M.length).length + M.length) c1)).run Try.prog x = .ok (.string (strOfNums (L ++ number M.length ++ M))) x ∧ Keep [] y1 x) hK (fun _ h => ⟨h.1, h.2.1⟩) ⟨hq.out.2, ⟨str_of (HL.out.1.keep0 hq.out.2) rfl, str_of (HL.out.2.1.keep0 hq.out.2) rfl⟩, str_of hq.out.1 (by simp; omega), Keep.refl _ _⟩ (fun hHeld => ?_)
  clear hK K
  refine wpAnyH_take (i := 3) (oi := { dst := some 16, op := Op.convert 22 9 (Operand.tmp 15), type := 9, pos := "law.go:27", after := #[{ on := 2, ground := Ground.data }], guard := none }) (v := ?_) rfl (by kernel_rfl) (by kernel_rfl) (by kernel_rfl) (fun _ _ _ h => h) (Or.inl ⟨by rfl, ?_⟩) (by assumption) ?_
  rotate_left
  focus (intro w hSw; (try dsimp only at hSw); go_simp <;> with_reducible rfl)
  try simp only [Act.put, List.setIfInBounds_toArray, List.set_cons_zero, List.set_cons_succ]
  refine wpAnyH_ready (rs := [9]) (by kernel_rfl) (by simp) ?_
  refine AllReadyH.cons (o := { dst := some 22, op := Op.call { callee := Callee.value (Operand.func 12), args := #[Operand.tmp 21], argTypes := #[23] }, type := 22, pos := "law.go:27", after := #[{ on := 8, ground := Ground.data }, { on := 2, ground := Ground.chain }], guard := none }) rfl (fun K hK => ?_) AllReadyH.nil
  go_simp
  refine (rnumber_at M.length (by omega) _).mono ?_
  rintro e y2 ⟨v2, rfl, hO2, hK2⟩
  obtain ⟨b2, c2, rfl, hR2⟩ := hO2.shape
  go_wp2_with fail
  have hp := Lib.hid (And.intro hR2 (And.intro (hHeld.1.trans hK2) hK2))
  clear hO2 hR2
  have hFin := Lib.hid (hHeld.1.trans hK2)
  refine shut_grow (fun x => x = y2 ∧ (convert 22 9 (.slice b2 (number M.length).length c2)).run Try.prog x = .ok (.string (strOfNums (number M.length))) x) hK (fun x h => by rw [h.1]; exact ⟨hp.out.2.1, ⟨str_of (HL.out.1.keep0 hp.out.2.1) rfl, str_of (HL.out.2.1.keep0 hp.out.2.1) rfl⟩, str_of (hq.out.1.keep0 (hHeld.2.2.2.trans hp.out.2.2)) (by simp; omega), hHeld.2.2.2.trans hp.out.2.2⟩) ⟨rfl, str_of hp.out.1 rfl⟩ (fun hHeld => ?_)
  clear hK K
  refine wpAnyH_take (i := 10) (oi := { dst := some 23, op := Op.convert 22 9 (Operand.tmp 22), type := 9, pos := "law.go:27", after := #[{ on := 9, ground := Ground.data }], guard := none }) (v := ?_) rfl (by kernel_rfl) (by kernel_rfl) (by kernel_rfl) (fun _ _ _ h => h) (Or.inl ⟨by rfl, ?_⟩) (by assumption) ?_
  rotate_left
  focus (intro w hSw; (try dsimp only at hSw); go_simp <;> with_reducible rfl)
  try simp only [Act.put, List.setIfInBounds_toArray, List.set_cons_zero, List.set_cons_succ]
  refine wpAnyH_take (i := 11) (oi := { dst := some 24, op := Op.binOp BinOp.add 9 (Operand.tmp 18) (Operand.tmp 23) 9, type := 9, pos := "law.go:27", after := #[{ on := 5, ground := Ground.data }, { on := 10, ground := Ground.data }], guard := none }) (v := ?_) rfl (by kernel_rfl) (by kernel_rfl) (by kernel_rfl) (fun _ _ _ h => h) (Or.inl ⟨by rfl, ?_⟩) (by assumption) ?_
  rotate_left
  focus (intro w hSw; (try dsimp only at hSw); go_simp <;> with_reducible rfl)
  try simp only [Act.put, List.setIfInBounds_toArray, List.set_cons_zero, List.set_cons_succ]
  refine wpAnyH_take (i := 14) (oi := { dst := some 27, op := Op.binOp BinOp.add 9 (Operand.tmp 24) (Operand.tmp 26) 9, type := 9, pos := "law.go:27", after := #[{ on := 11, ground := Ground.data }, { on := 13, ground := Ground.data }], guard := none }) (v := ?_) rfl (by kernel_rfl) (by kernel_rfl) (by kernel_rfl) (fun _ _ _ h => h) (Or.inl ⟨by rfl, ?_⟩) (by assumption) ?_
  rotate_left
  focus (intro w hSw; (try dsimp only at hSw); go_simp <;> with_reducible rfl)
  try simp only [Act.put, List.setIfInBounds_toArray, List.set_cons_zero, List.set_cons_succ]
  refine wpAnyH_take (i := 15) (oi := { dst := some 28, op := Op.binOp BinOp.neq 9 (Operand.tmp 16) (Operand.tmp 27) 9, type := 4, pos := "law.go:27", after := #[{ on := 3, ground := Ground.data }, { on := 14, ground := Ground.data }], guard := none }) (v := ?_) rfl (by kernel_rfl) (by kernel_rfl) (by kernel_rfl) (fun _ _ _ h => h) (Or.inl ⟨by rfl, ?_⟩) (by assumption) ?_
  rotate_left
  focus (intro w hSw; (try dsimp only at hSw); go_simp <;> with_reducible rfl)
  try simp only [Act.put, List.setIfInBounds_toArray, List.set_cons_zero, List.set_cons_succ]
  refine wpAnyH_done (by kernel_rfl) ?_ _
  have hk2 := Lib.hid hp.out.2.1
  clear hHeld hq hp hFin hsum hbig hbig2 hbig3 hK1 hK2 hw
  go_wp2_with fail
  refine (getB_at (HL.out.1.keep0 hk2.out) HL.out.2.2.2.1 a2 HL.out.2.2.1).mono ?_
  rintro e y3 ⟨a3, c3, rfl, hR3, hK3⟩
  have H3 := Lib.hid (And.intro hR3 (hk2.out.trans hK3))
  have C := Lib.hid (fun y (hy : Keep [] w y) => rgetB_at (HL.out.1.keep0 hy) a2 HL.out.2.2.1)
  clear hR3 hK3
  generalize getB L a2 = q at H3 C
  obtain ⟨N, k, er⟩ := q
  simp only at H3
  go_wp2_with fail
  refine (C.out _ H3.out.2).mono ?_
  rintro e y4 ⟨a4, c4, rfl, hR4, hK4⟩
  have g3 : Str y4 a3 N.length c3 N := str_of (H3.out.1.keep0 hK4) rfl
  have g4 : Str y4 a4 N.length c4 N := str_of hR4 rfl
  have hk4 := Lib.hid (H3.out.2.trans hK4)
  unfold Str at g3 g4
  clear hR4 hK4 C
  go_wp2_with fail
  refine (works_at _).mono ?_
  rintro e y5 ⟨rfl, hK5⟩
  have hF := Lib.hid (Keep.below (hk4.out.trans hK5) (Nat.le_refl _) (by simp))
  clear hK5
  go_wp2_with fail
  go_ret
  exact ⟨rfl, hF.out⟩
end Go.Proofs.Ytffpccijmgjofaa
