/- The law SpacesApart, walked. -/
import Derived.Test.YtpinoejckagjbaaVSpacesNone
namespace Go.Proofs.Ytpinoejckagjbaa
open Go.RowKit Go.Mum
set_option linter.unusedVariables false
set_option linter.unusedSimpArgs false
set_option maxRecDepth 100000

theorem two_of_cells {w : World} {B n : Nat} {cs : List Value} (h : Fits Try.prog w B n 74 cs) : ∃ kd kp kr u va fr bb kd' kp' kr' u' va' fr' bb', cs = stC kd kp kr u va fr bb ++ stC kd' kp' kr' u' va' fr' bb' ∧ StOk kd kp kr va fr bb ∧ StOk kd' kp' kr' va' fr' bb' := by
  obtain ⟨m, hl, hfs⟩ := h.struct Try.underlying74
  have q0 : Try.prog.cellsOf 74 = 14 := by kernel_rfl
  have q1 : Try.prog.cellsOf 72 = 7 := by kernel_rfl
  rw [q0] at hl
  obtain ⟨kd, kp, kr, u, va, fr, bb, e0, h0⟩ := step_of_cells (hfs _ (.head _))
  obtain ⟨kd', kp', kr', u', va', fr', bb', e1, h1⟩ := step_of_cells (hfs _ (.tail _ (.head _)))
  refine ⟨kd, kp, kr, u, va, fr, bb, kd', kp', kr', u', va', fr', bb', ?_, h0, h1⟩
  simp only [q1, List.drop_zero] at e0 e1
  have hd : (cs.drop 7).take 7 = cs.drop 7 := List.take_of_length_le (by simp [hl])
  rw [← List.take_append_drop 7 cs, e0, ← hd, e1]

/-- An address, as a rule one of few pages. -/
def nearP (va : Nat) : Nat := if va % 7 = 0 then va else va % 6000

theorem nearP_lt {va : Nat} (h : va < 4294967296) : nearP va < 4294967296 := by unfold nearP; split <;> omega

theorem nearp_at (va : Nat) (hv : va < 4294967296) (w : World) : Calls Try.prog 30 #[.int .u32 va] w fun e w' => e = .returned (.int .u32 (nearP va : Nat)) ∧ w = w' := by
  have t1 : ((va : Int)).tmod 7 = (va : Int) % 7 := by rw [Int.tmod_eq_emod_of_nonneg (by omega)]
  have t2 : ((va : Int)).tmod 6000 = (va : Int) % 6000 := by rw [Int.tmod_eq_emod_of_nonneg (by omega)]
  by_cases h : va % 7 = 0
  · have h' : (va : Int) % 7 = 0 := by omega
    have e : nearP va = va := by unfold nearP; rw [if_pos h]
    rw [e]
    clear h e
    go_enter Try.func30, Try.ntmps30
    go_wp2_with fail
    go_ret
    exact ⟨rfl, rfl⟩
  · have h' : ¬ ((va : Int) % 7 = 0) := by omega
    obtain ⟨z, hz⟩ : ∃ z : Nat, va % 6000 = z := ⟨_, rfl⟩
    have hz' : (va : Int) % 6000 = (z : Int) := by omega
    have e : nearP va = z := by unfold nearP; rw [if_neg h, hz]
    rw [e]
    clear h e hz
    go_enter Try.func30, Try.ntmps30
    go_wp2_with fail
    go_ret
    exact ⟨rfl, rfl⟩

/-- Where the pages lead when one was put in an empty space. -/
theorem put_leads0 {most ns : Nat} {T T' : Nat → Nat → Tab} {up : Nat → Bool} {lent : List Int} {n va bb : Nat} {frame : Int} (h : PutM most ns T up lent n va frame bb true T') (h0 : T n = fun _ => tab0) (v : Nat) (hv : v / 1024 < 32) : leads (T' n) v = if v / 64 = va / 64 then entryOf frame.toNat bb else 0 := by
  rcases h with ⟨-, h, -⟩ | ⟨⟨h1, h2, h3, h4⟩, -, T1, hl, rfl⟩ | ⟨-, -, -, h, -⟩
  · cases h
  · rw [h0] at hl
    rcases hl with ⟨h, -⟩ | ⟨-, f, -, -, -, rfl⟩
    · cases h
    · unfold leads
      rw [setSh_same]
      by_cases hk : v / 1024 = va / 1024
      · rw [hk, setTab_same, setTab_same]
        have hen : (setEn (⟨true, f, fun _ => 0⟩ : Tab) (va / 64 % 16) (entryOf frame.toNat bb)).en (v / 64 % 16) = if v / 64 % 16 = va / 64 % 16 then entryOf frame.toNat bb else 0 := rfl
        rw [hen]
        have hth : (setEn (⟨true, f, fun _ => 0⟩ : Tab) (va / 64 % 16) (entryOf frame.toNat bb)).th = true := rfl
        rw [hth, if_pos ⟨by omega, rfl⟩]
        by_cases hj : v / 64 % 16 = va / 64 % 16
        · rw [if_pos hj, if_pos (by omega)]
        · rw [if_neg hj, if_neg (by omega)]
      · rw [setTab_ne hk, setTab_ne hk, if_neg (by rintro ⟨-, h⟩; cases h), if_neg (by omega)]
  · cases h

/-- Where one table alone is lent, one frame is. -/
theorem lent_one {most ns : Nat} {T : Nat → Nat → Tab} {up : Nat → Bool} {L lent : List Int} (hI : MInv most ns T up L lent) {k n : Nat} (h : ∀ k' n', k' < ns → n' < 32 → (T k' n').th = true → k' = k ∧ n' = n) : lent.length ≤ 1 := by
  have := nodup_le_int lent [((T k n).fr : Int)] hI.lnd (fun z hz => by
    obtain ⟨k', n', hk, hn, ht, rfl⟩ := (hI.lnt z).1 hz
    obtain ⟨rfl, rfl⟩ := h k' n' hk hn ht
    simp)
  simpa using this

theorem and14 (bb : Nat) : (bb &&& 14) ||| 1 = bb % 16 / 2 * 2 + 1 := by
  have h1 : bb &&& 14 = (bb % 16) &&& 14 := by
    have h2 : bb % 16 = bb &&& 15 := (Nat.and_two_pow_sub_one_eq_mod bb 4).symm
    rw [h2, Nat.and_assoc]
    rfl
  rw [h1]
  have h3 : ∀ m, m < 16 → (m &&& 14) ||| 1 = m / 2 * 2 + 1 := by decide
  exact h3 _ (Nat.mod_lt _ (by decide))

set_option maxHeartbeats 8000000 in
theorem SpacesApart_walk (c0 : Array Value) (n0 : Nat) (c1 : Array Value) (n1 : Nat) (c2 : Array Value) (n2 : Nat) (w : World) (w0 : Fits Try.prog w maxLen n0 70 c0.toList) (w1 : Fits Try.prog w maxLen n1 70 c1.toList) (w2 : Fits Try.prog w maxLen n2 74 c2.toList) :
    Calls Try.prog 7 #[.agg c0, .agg c1, .agg c2] w fun e w' => e = .returned (.bool true) ∧ Below w.heap.size w w' := by
  obtain ⟨ap, ar, hc0, ha1, ha2⟩ := key_of_cells rfl w0
  obtain ⟨bp, br, hc1, hb1, hb2⟩ := key_of_cells rfl w1
  obtain ⟨kd, kp, kr, u, va, fr, bb, kd', kp', kr', u', va', fr', bb', hc2, hx, hy⟩ := two_of_cells w2
  obtain rfl : c0 = #[.int .u32 (ap : Nat), .int .u32 (ar : Nat)] := by rw [← Array.toList_inj]; exact hc0
  obtain rfl : c1 = #[.int .u32 (bp : Nat), .int .u32 (br : Nat)] := by rw [← Array.toList_inj]; exact hc1
  obtain rfl : c2 = (stC kd kp kr u va fr bb ++ stC kd' kp' kr' u' va' fr' bb').toArray := by rw [← Array.toList_inj]; exact hc2
  clear hc0 hc1 hc2 w0 w1 w2
  go_enter Try.func7, Try.ntmps7
  go_wp2_with fail
  obtain ⟨bs, hbs⟩ : ∃ b, b = w.heap.size := ⟨_, rfl⟩
  rw [← hbs]
  generalize hy : World.alloc (World.alloc (World.alloc w _) _) _ = y2
  have H2 : Hid (y2.heap[bs]? = some (.cells #[.int .u32 (ap : Nat), .int .u32 (ar : Nat)] 70 (0, 0)) ∧ y2.heap[bs + 1]? = some (.cells #[.int .u32 (bp : Nat), .int .u32 (br : Nat)] 70 (0, 0)) ∧ y2.heap[bs + 1 + 1]? = some (.cells (stC kd kp kr u va fr bb ++ stC kd' kp' kr' u' va' fr' bb').toArray 74 (0, 0)) ∧ Keep [] w y2 ∧ bs = w.heap.size) := Lib.hid (by
    subst hy
    exact ⟨(((Keep.refl [] _).alloc _).alloc _).heap (heap_alloc_at _ hbs) (by simp), ((Keep.refl [] _).alloc _).heap (heap_alloc_at _ (by simp; omega)) (by simp), heap_alloc_at _ (by simp; omega), ((Keep.refl [] w).alloc _ |>.alloc _ |>.alloc _), hbs⟩)
  clear hy hbs
  have hc : ∀ (x : World), Keep [] y2 x → ∀ j v, (stC kd kp kr u va fr bb ++ stC kd' kp' kr' u' va' fr' bb').toArray[j]? = some v → x.cell? ⟨bs + 1 + 1, j, none⟩ = some v := fun x hk j v h => cell_of (hk.heap H2.out.2.2.1 (by simp)) j h
  have hz0 : ∀ o1 o2, (((y2.alloc o1).alloc o2).drew).cell? ⟨bs + 1 + 1, 0, none⟩ = some (.int .i64 kd) := fun o1 o2 => hc _ (((Keep.refl [] _).alloc _).alloc _).drew 0 _ rfl
  have hx0 : y2.cell? ⟨bs + 1 + 1, 0, none⟩ = some (.int .i64 kd) := hc _ (Keep.refl [] _) 0 _ rfl
  have hy0 : ∀ o1, ((y2.alloc o1).drew).cell? ⟨bs + 1 + 1, 0, none⟩ = some (.int .i64 kd) := fun o1 => hc _ ((Keep.refl [] _).alloc _).drew 0 _ rfl
  have hz1 : ∀ o1 o2, (((y2.alloc o1).alloc o2).drew).cell? ⟨bs + 1 + 1, 1, none⟩ = some (.int .u32 (kp : Nat)) := fun o1 o2 => hc _ (((Keep.refl [] _).alloc _).alloc _).drew 1 _ rfl
  have hx1 : y2.cell? ⟨bs + 1 + 1, 1, none⟩ = some (.int .u32 (kp : Nat)) := hc _ (Keep.refl [] _) 1 _ rfl
  have hy1 : ∀ o1, ((y2.alloc o1).drew).cell? ⟨bs + 1 + 1, 1, none⟩ = some (.int .u32 (kp : Nat)) := fun o1 => hc _ ((Keep.refl [] _).alloc _).drew 1 _ rfl
  have hz2 : ∀ o1 o2, (((y2.alloc o1).alloc o2).drew).cell? ⟨bs + 1 + 1, 2, none⟩ = some (.int .u32 (kr : Nat)) := fun o1 o2 => hc _ (((Keep.refl [] _).alloc _).alloc _).drew 2 _ rfl
  have hx2 : y2.cell? ⟨bs + 1 + 1, 2, none⟩ = some (.int .u32 (kr : Nat)) := hc _ (Keep.refl [] _) 2 _ rfl
  have hy2 : ∀ o1, ((y2.alloc o1).drew).cell? ⟨bs + 1 + 1, 2, none⟩ = some (.int .u32 (kr : Nat)) := fun o1 => hc _ ((Keep.refl [] _).alloc _).drew 2 _ rfl
  have hz3 : ∀ o1 o2, (((y2.alloc o1).alloc o2).drew).cell? ⟨bs + 1 + 1, 3, none⟩ = some (.bool u) := fun o1 o2 => hc _ (((Keep.refl [] _).alloc _).alloc _).drew 3 _ rfl
  have hx3 : y2.cell? ⟨bs + 1 + 1, 3, none⟩ = some (.bool u) := hc _ (Keep.refl [] _) 3 _ rfl
  have hy3 : ∀ o1, ((y2.alloc o1).drew).cell? ⟨bs + 1 + 1, 3, none⟩ = some (.bool u) := fun o1 => hc _ ((Keep.refl [] _).alloc _).drew 3 _ rfl
  have hz4 : ∀ o1 o2, (((y2.alloc o1).alloc o2).drew).cell? ⟨bs + 1 + 1, 4, none⟩ = some (.int .u32 (va : Nat)) := fun o1 o2 => hc _ (((Keep.refl [] _).alloc _).alloc _).drew 4 _ rfl
  have hx4 : y2.cell? ⟨bs + 1 + 1, 4, none⟩ = some (.int .u32 (va : Nat)) := hc _ (Keep.refl [] _) 4 _ rfl
  have hy4 : ∀ o1, ((y2.alloc o1).drew).cell? ⟨bs + 1 + 1, 4, none⟩ = some (.int .u32 (va : Nat)) := fun o1 => hc _ ((Keep.refl [] _).alloc _).drew 4 _ rfl
  have hz5 : ∀ o1 o2, (((y2.alloc o1).alloc o2).drew).cell? ⟨bs + 1 + 1, 5, none⟩ = some (.int .i64 fr) := fun o1 o2 => hc _ (((Keep.refl [] _).alloc _).alloc _).drew 5 _ rfl
  have hx5 : y2.cell? ⟨bs + 1 + 1, 5, none⟩ = some (.int .i64 fr) := hc _ (Keep.refl [] _) 5 _ rfl
  have hy5 : ∀ o1, ((y2.alloc o1).drew).cell? ⟨bs + 1 + 1, 5, none⟩ = some (.int .i64 fr) := fun o1 => hc _ ((Keep.refl [] _).alloc _).drew 5 _ rfl
  have hz6 : ∀ o1 o2, (((y2.alloc o1).alloc o2).drew).cell? ⟨bs + 1 + 1, 6, none⟩ = some (.int .u32 (bb : Nat)) := fun o1 o2 => hc _ (((Keep.refl [] _).alloc _).alloc _).drew 6 _ rfl
  have hx6 : y2.cell? ⟨bs + 1 + 1, 6, none⟩ = some (.int .u32 (bb : Nat)) := hc _ (Keep.refl [] _) 6 _ rfl
  have hy6 : ∀ o1, ((y2.alloc o1).drew).cell? ⟨bs + 1 + 1, 6, none⟩ = some (.int .u32 (bb : Nat)) := fun o1 => hc _ ((Keep.refl [] _).alloc _).drew 6 _ rfl
  have hz7 : ∀ o1 o2, (((y2.alloc o1).alloc o2).drew).cell? ⟨bs + 1 + 1, 7, none⟩ = some (.int .i64 kd') := fun o1 o2 => hc _ (((Keep.refl [] _).alloc _).alloc _).drew 7 _ rfl
  have hx7 : y2.cell? ⟨bs + 1 + 1, 7, none⟩ = some (.int .i64 kd') := hc _ (Keep.refl [] _) 7 _ rfl
  have hy7 : ∀ o1, ((y2.alloc o1).drew).cell? ⟨bs + 1 + 1, 7, none⟩ = some (.int .i64 kd') := fun o1 => hc _ ((Keep.refl [] _).alloc _).drew 7 _ rfl
  have hz8 : ∀ o1 o2, (((y2.alloc o1).alloc o2).drew).cell? ⟨bs + 1 + 1, 8, none⟩ = some (.int .u32 (kp' : Nat)) := fun o1 o2 => hc _ (((Keep.refl [] _).alloc _).alloc _).drew 8 _ rfl
  have hx8 : y2.cell? ⟨bs + 1 + 1, 8, none⟩ = some (.int .u32 (kp' : Nat)) := hc _ (Keep.refl [] _) 8 _ rfl
  have hy8 : ∀ o1, ((y2.alloc o1).drew).cell? ⟨bs + 1 + 1, 8, none⟩ = some (.int .u32 (kp' : Nat)) := fun o1 => hc _ ((Keep.refl [] _).alloc _).drew 8 _ rfl
  have hz9 : ∀ o1 o2, (((y2.alloc o1).alloc o2).drew).cell? ⟨bs + 1 + 1, 9, none⟩ = some (.int .u32 (kr' : Nat)) := fun o1 o2 => hc _ (((Keep.refl [] _).alloc _).alloc _).drew 9 _ rfl
  have hx9 : y2.cell? ⟨bs + 1 + 1, 9, none⟩ = some (.int .u32 (kr' : Nat)) := hc _ (Keep.refl [] _) 9 _ rfl
  have hy9 : ∀ o1, ((y2.alloc o1).drew).cell? ⟨bs + 1 + 1, 9, none⟩ = some (.int .u32 (kr' : Nat)) := fun o1 => hc _ ((Keep.refl [] _).alloc _).drew 9 _ rfl
  have hza : ∀ o1 o2, (((y2.alloc o1).alloc o2).drew).cell? ⟨bs + 1 + 1, 10, none⟩ = some (.bool u') := fun o1 o2 => hc _ (((Keep.refl [] _).alloc _).alloc _).drew 10 _ rfl
  have hxa : y2.cell? ⟨bs + 1 + 1, 10, none⟩ = some (.bool u') := hc _ (Keep.refl [] _) 10 _ rfl
  have hya : ∀ o1, ((y2.alloc o1).drew).cell? ⟨bs + 1 + 1, 10, none⟩ = some (.bool u') := fun o1 => hc _ ((Keep.refl [] _).alloc _).drew 10 _ rfl
  have hzb : ∀ o1 o2, (((y2.alloc o1).alloc o2).drew).cell? ⟨bs + 1 + 1, 11, none⟩ = some (.int .u32 (va' : Nat)) := fun o1 o2 => hc _ (((Keep.refl [] _).alloc _).alloc _).drew 11 _ rfl
  have hxb : y2.cell? ⟨bs + 1 + 1, 11, none⟩ = some (.int .u32 (va' : Nat)) := hc _ (Keep.refl [] _) 11 _ rfl
  have hyb : ∀ o1, ((y2.alloc o1).drew).cell? ⟨bs + 1 + 1, 11, none⟩ = some (.int .u32 (va' : Nat)) := fun o1 => hc _ ((Keep.refl [] _).alloc _).drew 11 _ rfl
  have hzc : ∀ o1 o2, (((y2.alloc o1).alloc o2).drew).cell? ⟨bs + 1 + 1, 12, none⟩ = some (.int .i64 fr') := fun o1 o2 => hc _ (((Keep.refl [] _).alloc _).alloc _).drew 12 _ rfl
  have hxc : y2.cell? ⟨bs + 1 + 1, 12, none⟩ = some (.int .i64 fr') := hc _ (Keep.refl [] _) 12 _ rfl
  have hyc : ∀ o1, ((y2.alloc o1).drew).cell? ⟨bs + 1 + 1, 12, none⟩ = some (.int .i64 fr') := fun o1 => hc _ ((Keep.refl [] _).alloc _).drew 12 _ rfl
  have hzd : ∀ o1 o2, (((y2.alloc o1).alloc o2).drew).cell? ⟨bs + 1 + 1, 13, none⟩ = some (.int .u32 (bb' : Nat)) := fun o1 o2 => hc _ (((Keep.refl [] _).alloc _).alloc _).drew 13 _ rfl
  have hxd : y2.cell? ⟨bs + 1 + 1, 13, none⟩ = some (.int .u32 (bb' : Nat)) := hc _ (Keep.refl [] _) 13 _ rfl
  have hyd : ∀ o1, ((y2.alloc o1).drew).cell? ⟨bs + 1 + 1, 13, none⟩ = some (.int .u32 (bb' : Nat)) := fun o1 => hc _ ((Keep.refl [] _).alloc _).drew 13 _ rfl
  clear hc
  obtain ⟨v1, hv1⟩ : ∃ v, v = nearP va % 16384 := ⟨_, rfl⟩
  obtain ⟨v2, hv2⟩ : ∃ v, v = nearP va' % 16384 := ⟨_, rfl⟩
  have C1 : Hid (∀ (z : World) k, Calls Try.prog 30 #[.int .u32 va] (z.drewN k) fun e y => e = .returned (.int .u32 (nearP va : Nat)) ∧ ∃ m, y = z.drewN m) := Lib.hid (fun z k => quiet_of_eq rfl (nearp_at va hx.2.2.2.1 _))
  have C2 : Hid (∀ (z : World) k, Calls Try.prog 30 #[.int .u32 va'] (z.drewN k) fun e y => e = .returned (.int .u32 (nearP va' : Nat)) ∧ ∃ m, y = z.drewN m) := Lib.hid (fun z k => quiet_of_eq rfl (nearp_at va' hy.2.2.2.1 _))
  have p1 : ((nearP va : Nat) : Int).tmod 16384 = (v1 : Int) := by rw [Int.tmod_eq_emod_of_nonneg (by omega)]; omega
  have p2 : ((nearP va' : Nat) : Int).tmod 16384 = (v2 : Int) := by rw [Int.tmod_eq_emod_of_nonneg (by omega)]; omega
  have p1' : ((nearP va : Nat) : Int) % 16384 = (v1 : Int) := by omega
  have p2' : ((nearP va' : Nat) : Int) % 16384 = (v2 : Int) := by omega
  obtain ⟨wf1, hwf1⟩ : ∃ z, z = IntKind.u64.wrap fr := ⟨_, rfl⟩
  obtain ⟨wf2, hwf2⟩ : ∃ z, z = IntKind.u64.wrap fr' := ⟨_, rfl⟩
  have n1 : 0 ≤ wf1 := by rw [hwf1, IntKind.wrap_u64]; omega
  have n2 : 0 ≤ wf2 := by rw [hwf2, IntKind.wrap_u64]; omega
  obtain ⟨f1, hf1⟩ : ∃ f : Nat, wf1 % 60 = (f : Int) := ⟨(wf1 % 60).toNat, by omega⟩
  obtain ⟨f2, hf2⟩ : ∃ f : Nat, wf2 % 60 = (f : Int) := ⟨(wf2 % 60).toNat, by omega⟩
  have q1 : wf1.tmod 60 = (f1 : Int) := by rw [Int.tmod_eq_emod_of_nonneg n1]; exact hf1
  have q2 : wf2.tmod 60 = (f2 : Int) := by rw [Int.tmod_eq_emod_of_nonneg n2]; exact hf2
  have q3 : IntKind.i64.wrap (f1 : Int) = (f1 : Int) := IntWalk.i64_in _ (by omega)
  have q4 : IntKind.i64.wrap (f2 : Int) = (f2 : Int) := IntWalk.i64_in _ (by omega)
  have HV : Hid (v1 < 16384 ∧ v2 < 16384 ∧ f1 < 60 ∧ f2 < 60 ∧ bb < 4294967296 ∧ bb' < 4294967296) := Lib.hid ⟨by omega, by omega, by omega, by omega, hx.2.2.2.2.2, hy.2.2.2.2.2⟩
  have g1 : bits .and .u32 (bb : Int) 14 = ((bb &&& 14 : Nat) : Int) := and_u32 bb 14 hx.2.2.2.2.2 (by decide)
  have g2 : bits .or .u32 ((bb &&& 14 : Nat) : Int) 1 = ((bb % 16 / 2 * 2 + 1 : Nat) : Int) := by
    have := or_u32 (bb &&& 14) 1 (Nat.lt_of_le_of_lt Nat.and_le_right (by decide)) (by decide)
    rw [and14] at this
    exact this
  obtain ⟨m1, hm1⟩ : ∃ m, m = bb &&& 14 := ⟨_, rfl⟩
  obtain ⟨m2, hm2⟩ : ∃ m, m = bb % 16 / 2 * 2 + 1 := ⟨_, rfl⟩
  rw [← hm1] at g1 g2
  rw [← hm2] at g2
  have HM2 := Lib.hid hm2
  clear hm1 hm2 hv1 hv2 hx hy
  go_region
  all_goals
    first
      | (skip
         obtain ⟨b8, hb8⟩ : ∃ b, b = y2.heap.size + 1 := ⟨_, rfl⟩
         rw [← hb8]
         obtain ⟨b7, hb7⟩ : ∃ b, b = y2.heap.size := ⟨_, rfl⟩
         rw [← hb7]
         generalize hx3 : World.drew (World.alloc (World.alloc y2 _) _) = x3
         have HX : Hid (StB x3 b7 kd kp kr u va fr bb ∧ StB x3 b8 kd' kp' kr' u' va' fr' bb' ∧ Keep [] y2 x3) := Lib.hid (by
           subst hx3
           exact ⟨((Keep.refl [] _).alloc _).drew.heap (heap_alloc_at _ hb7) (by simp), ((Keep.refl [] _).drew.heap (heap_alloc_at _ (by simp; omega)) (by simp)), ((Keep.refl [] y2).alloc _ |>.alloc _ |>.drew)⟩)
         clear hx3 hb7 hb8)
      | (skip
         obtain ⟨b7, hb7⟩ : ∃ b, b = y2.heap.size + 1 := ⟨_, rfl⟩
         rw [← hb7]
         obtain ⟨b8, hb8⟩ : ∃ b, b = y2.heap.size := ⟨_, rfl⟩
         rw [← hb8]
         generalize hx3 : World.drew (World.alloc (World.alloc y2 _) _) = x3
         have HX : Hid (StB x3 b7 kd kp kr u va fr bb ∧ StB x3 b8 kd' kp' kr' u' va' fr' bb' ∧ Keep [] y2 x3) := Lib.hid (by
           subst hx3
           exact ⟨((Keep.refl [] _).drew.heap (heap_alloc_at _ (by simp; omega)) (by simp)), ((Keep.refl [] _).alloc _).drew.heap (heap_alloc_at _ hb8) (by simp), ((Keep.refl [] y2).alloc _ |>.alloc _ |>.drew)⟩)
         clear hx3 hb7 hb8)
  all_goals
    clear hz0 hz1 hz2 hz3 hz4 hz5 hz6 hz7 hz8 hz9 hza hzb hzc hzd hx0 hx1 hx2 hx3 hx4 hx5 hx6 hx7 hx8 hx9 hxa hxb hxc hxd hy0 hy1 hy2 hy3 hy4 hy5 hy6 hy7 hy8 hy9 hya hyb hyc hyd
    (try simp only [Exit.then])
    go_wp2_with fail
    refine (spmade_at 3 9 (by omega) (by omega) x3).mono ?_
    rintro e y ⟨B, q, r, fb, g, p, pm, rb, sh, ga, gc, ea, ec, rfl, hH, hk⟩
    have HY : Hid (HB y x3.heap.size B q r fb g p pm (9 % 10) (1 + 3 % 8) rb sh ga gc ea ec (fun _ _ => tab0) (fun _ => false) A0 (List.range (1 + 3 % 8)) false 0 0 0 R0 (List.range (1 + 3 % 8)) false 0 ∧ Keep [] x3 y) := Lib.hid ⟨hH, hk⟩
    have HW : Hid (Keep [] w x3) := Lib.hid (H2.out.2.2.2.1.trans HX.out.2.2)
    have HCL : Hid (∀ z, KeepUp x3.heap.size x3 z → (z.cell? ⟨bs, 0, none⟩ = some (.int .u32 (ap : Nat)) ∧ z.cell? ⟨bs, 1, none⟩ = some (.int .u32 (ar : Nat))) ∧ (z.cell? ⟨bs + 1, 0, none⟩ = some (.int .u32 (bp : Nat)) ∧ z.cell? ⟨bs + 1, 1, none⟩ = some (.int .u32 (br : Nat))) ∧ StB z b7 kd kp kr u va fr bb ∧ StB z b8 kd' kp' kr' u' va' fr' bb') := Lib.hid (fun z hz => by
      have hkz := KeepUp.nil hz
      have h1 := (HX.out.2.2.trans hkz).heap H2.out.1 (by simp)
      have h2 := (HX.out.2.2.trans hkz).heap H2.out.2.1 (by simp)
      exact ⟨⟨cell_of h1 0 rfl, cell_of h1 1 rfl⟩, ⟨cell_of h2 0 rfl, cell_of h2 1 rfl⟩, hkz.heap HX.out.1 (by simp), hkz.heap HX.out.2.1 (by simp)⟩)
    clear hH hk H2 HX
    obtain ⟨⟨ca0, ca1⟩, ⟨cb0, cb1⟩, hs7, hs8⟩ := HCL.out y (Keep.upTo HY.out.2 (by simp))
    have hke := key_eql ap ar bp br
    cases hab : (ap == bp && ar == br)
    rotate_left
    · rw [hab] at hke
      clear hab hs7 hs8
      go_wp2_with fail
      refine (spworks_at _).mono ?_
      rintro e z5 ⟨rfl, hk5⟩
      have HF : Hid (Below w.heap.size w z5) := Lib.hid ((HW.out.trans (HY.out.2.trans hk5)).below (Nat.le_refl _) (by simp))
      clear hk5
      go_wp2_with fail
      go_ret
      exact ⟨rfl, HF.out⟩
    · rw [hab] at hke
      have HAB := Lib.hid hab
      obtain ⟨-, -, -, e3, e4, e5, e6⟩ := hs7.cells
      obtain ⟨-, -, -, d3, d4, d5, d6⟩ := hs8.cells
      clear hab hs7 hs8
      go_wp2_with fail
      go_quiet ((first | (go_at_call 30; exact C1.out _ _) | (go_at_call 30; exact C2.out _ _)))
      generalize hz0 : World.drewN _ _ = z0
      have HZ0 : Hid (Keep [] y z0) := Lib.hid (by
        subst hz0
        first
          | exact (Keep.refl _ _).drewN _
          | exact ((Keep.refl _ _).drewN _).drewN _)
      clear hz0
      replace e5 := HZ0.out.cell e5 (by simp)
      replace d5 := HZ0.out.cell d5 (by simp)
      clear C1 C2 p1 p2 p1' p2' e4 d4
      go_wp2_with fail
      have hwf1' := hwf1.symm
      have hwf2' := hwf2.symm
      clear hwf1 hwf2
      go_quiet (fail)
      generalize hz1 : World.drewN _ _ = z1
      have HZ1 : Hid (HB z1 x3.heap.size B q r fb g p pm (9 % 10) (1 + 3 % 8) rb sh ga gc ea ec (fun _ _ => tab0) (fun _ => false) A0 (List.range (1 + 3 % 8)) false 0 0 0 R0 (List.range (1 + 3 % 8)) false 0 ∧ KeepUp x3.heap.size x3 z1) := Lib.hid (by
        have hk : Keep [] y z1 := by
          subst hz1
          first
            | exact HZ0.out.drewN _
            | exact (HZ0.out.drewN _).drewN _
        exact ⟨HY.out.1.keep0 hk, Keep.upTo (HY.out.2.trans hk) (by simp)⟩)
      clear hz1 hwf1' hwf2' hke
      clear ca0 ca1 cb0 cb1 e3 e5 e6 d3 d5 d6
      obtain ⟨⟨ca0, ca1⟩, ⟨cb0, cb1⟩, hs7, hs8⟩ := HCL.out z1 HZ1.out.2
      obtain ⟨-, -, -, e3, e4, e5, e6⟩ := hs7.cells
      obtain ⟨-, -, -, d3, d4, d5, d6⟩ := hs8.cells
      clear hs7 hs8
      go_wp2_with fail
      refine (hb_pselect HZ1.out.1 (by omega) (by omega) ap ar u).mono ?_
      rintro e z2 ⟨rr, A1, age1, T1, up1, k1, l1, rfl, hq, hH2, hk2⟩
      have hq2 : rr = false ∧ A1 = A0.take 0 ap ar u ∧ age1 = [1, 2, 3, 0] ∧ T1 = (fun _ _ => tab0) ∧ up1 = setUp (fun _ => false) 0 u ∧ k1 = 0 ∧ l1 = 0 + 1 := by
        rcases hq with ⟨n, _, h, _⟩ | ⟨_, h1, h0, h2, h3, h4, h5, h6, h7⟩
        · cases h
        · exact ⟨h1, h2, h3.trans (show youngL (List.range (1 + 3 % 8)) 0 = [1, 2, 3, 0] by decide), h4.trans (by funext m; unfold setSh; split <;> rfl), h5, h6, h7⟩
      obtain ⟨rfl, rfl, rfl, rfl, rfl, rfl, rfl⟩ := hq2
      have H2 : Hid (HB z2 x3.heap.size B q r fb g p pm (9 % 10) (1 + 3 % 8) rb sh ga gc ea ec (fun _ _ => tab0) (setUp (fun _ => false) 0 u) (A0.take 0 ap ar u) [1, 2, 3, 0] true 0 (0 + 1) 0 R0 (List.range (1 + 3 % 8)) false 0 ∧ KeepUp x3.heap.size x3 z2) := Lib.hid ⟨hH2, HZ1.out.2.trans hk2⟩
      clear hq hH2 hk2
      clear ca0 ca1 cb0 cb1 e3 e4 e5 e6 d3 d4 d5 d6
      obtain ⟨⟨ca0, ca1⟩, ⟨cb0, cb1⟩, hs7, hs8⟩ := HCL.out z2 H2.out.2
      obtain ⟨-, -, -, e3, e4, e5, e6⟩ := hs7.cells
      obtain ⟨-, -, -, d3, d4, d5, d6⟩ := hs8.cells
      clear hs7 hs8
      have hbounds := HV.out
      go_wp2_with fail
      refine (hb_pput H2.out.1 (by omega) (i := 3) (by simp) v1 f1 bb (by omega) (by omega) (by omega) (by omega)).mono ?_
      rintro e z3 ⟨b1, T2, rfl, ⟨L1, lent1, hI, hq⟩, hH3, hk3⟩
      have hl0 : lent1 = [] := by
        rw [List.eq_nil_iff_forall_not_mem]
        intro z hz
        obtain ⟨k, n, _, _, ht, _⟩ := (hI.lnt z).1 hz
        cases ht
      obtain ⟨rfl, hpm⟩ := put_room hI (n := 0) (by decide) (.inl (by rw [hl0]; decide)) ⟨by omega, fun h => by omega, by omega, by omega⟩ hq
      have H3 : Hid (HB z3 x3.heap.size B q r fb g p pm (9 % 10) (1 + 3 % 8) rb sh ga gc ea ec T2 (setUp (fun _ => false) 0 u) (A0.take 0 ap ar u) [1, 2, 3, 0] true 0 (0 + 1) (0 + 2) R0 (List.range (1 + 3 % 8)) false 0 ∧ KeepUp x3.heap.size x3 z3 ∧ (∀ v, v / 1024 < 32 → leads (T2 0) v = if v / 64 = v1 / 64 then entryOf f1 bb else 0) ∧ (∀ m, m ≠ 0 → T2 m = fun _ => tab0) ∧ (∀ k, k ≠ v1 / 1024 → T2 0 k = tab0)) := Lib.hid ⟨hH3, H2.out.2.trans hk3, fun v hv => by simpa using put_leads0 hpm rfl v hv, (put_leads hpm).2.2.1, (put_leads hpm).2.2.2⟩
      clear hq hH3 hk3 hI hl0 hpm hbounds
      clear ca0 ca1 cb0 cb1 e3 e4 e5 e6 d3 d4 d5 d6
      obtain ⟨⟨ca0, ca1⟩, ⟨cb0, cb1⟩, hs7, hs8⟩ := HCL.out z3 H3.out.2.1
      obtain ⟨-, -, -, e3, e4, e5, e6⟩ := hs7.cells
      obtain ⟨-, -, -, d3, d4, d5, d6⟩ := hs8.cells
      clear hs7 hs8
      go_wp2_with fail
      refine (hb_pselect H3.out.1 (by omega) (by omega) bp br u').mono ?_
      rintro e z4 ⟨rr, A2, age2, T3, up2, k2, l2, rfl, hq, hH4, hk4⟩
      have hq2 : rr = false ∧ A2 = (A0.take 0 ap ar u).take 1 bp br u' ∧ age2 = [2, 3, 0, 1] ∧ T3 = T2 ∧ up2 = setUp (setUp (fun _ => false) 0 u) 1 u' ∧ k2 = 0 ∧ l2 = 0 + 1 + 1 := by
        rcases hq with ⟨n, _, h, _⟩ | ⟨_, h1, h0, h2, h3, h4, h5, h6, h7⟩
        · exfalso
          unfold keyQ at h
          by_cases hn : n = 0
          · subst hn
            have h' : (true && (ap == bp && ar == br)) = true := h
            rw [HAB.out] at h'; cases h'
          · have h' : (A0.take 0 ap ar u).tk n = false := by
              show updN (fun _ => false) 0 true n = false
              rw [updN_ne hn]
            rw [h'] at h; cases h
        · refine ⟨h1, h2, h3.trans (show youngL [1, 2, 3, 0] 1 = [2, 3, 0, 1] by decide), h4.trans ?_, h5, h6, h7⟩
          have := H3.out.2.2.2.1 1 (by decide)
          show setSh T2 1 (fun _ => tab0) = T2
          rw [← this]
          exact setSh_self T2 1
      obtain ⟨rfl, rfl, rfl, rfl, rfl, rfl, rfl⟩ := hq2
      have H4 : Hid (HB z4 x3.heap.size B q r fb g p pm (9 % 10) (1 + 3 % 8) rb sh ga gc ea ec T3 (setUp (setUp (fun _ => false) 0 u) 1 u') ((A0.take 0 ap ar u).take 1 bp br u') [2, 3, 0, 1] true 0 (0 + 1 + 1) (0 + 2) R0 (List.range (1 + 3 % 8)) false 0 ∧ KeepUp x3.heap.size x3 z4 ∧ (∀ v, v / 1024 < 32 → leads (T3 0) v = if v / 64 = v1 / 64 then entryOf f1 bb else 0) ∧ (∀ m, m ≠ 0 → T3 m = fun _ => tab0) ∧ (∀ k, k ≠ v1 / 1024 → T3 0 k = tab0)) := Lib.hid ⟨hH4, H3.out.2.1.trans hk4, H3.out.2.2⟩
      clear hq hH4 hk4
      clear ca0 ca1 cb0 cb1 e3 e4 e5 e6 d3 d4 d5 d6
      go_wp2_with fail
      refine (hb_root H4.out.1 (i := 3) (by simp)).mono ?_
      rintro e z5 ⟨rfl, hk5⟩
      have H5 : Hid (HB z5 x3.heap.size B q r fb g p pm (9 % 10) (1 + 3 % 8) rb sh ga gc ea ec T3 (setUp (setUp (fun _ => false) 0 u) 1 u') ((A0.take 0 ap ar u).take 1 bp br u') [2, 3, 0, 1] true 0 (0 + 1 + 1) (0 + 2) R0 (List.range (1 + 3 % 8)) false 0 ∧ KeepUp x3.heap.size x3 z5) := Lib.hid ⟨H4.out.1.keep0 hk5, H4.out.2.1.trans (Keep.upTo hk5 (by simp))⟩
      clear hk5
      have hbounds := HV.out
      go_wp2_with fail
      refine (hb_look H5.out.1 (k := 1) (by decide) v1 (by omega)).mono ?_
      rintro e z6 ⟨hk6, hP⟩
      have hP2 : e = .returned (.tuple #[.agg #[.int .u32 0, .int .u32 0, .int .u32 0, .int .i64 0, .int .i64 0, .int .i64 0], .bool false]) := by
        rcases hP with ⟨_, h⟩ | ⟨f, b, a, e1, d, t, h1, h2, h3, h4, h5⟩
        · exact h
        · rw [H4.out.2.2.2.1 1 (by decide)] at h4
          have : leads (fun _ => tab0) v1 = 0 := by unfold leads; simp [tab0]
          omega
      subst hP2
      have H6 : Hid (∀ o, (HB (z6.alloc o) x3.heap.size B q r fb g p pm (9 % 10) (1 + 3 % 8) rb sh ga gc ea ec T3 (setUp (setUp (fun _ => false) 0 u) 1 u') ((A0.take 0 ap ar u).take 1 bp br u') [2, 3, 0, 1] true 0 (0 + 1 + 1) (0 + 2) R0 (List.range (1 + 3 % 8)) false 0) ∧ KeepUp x3.heap.size x3 (z6.alloc o)) := Lib.hid (fun o => ⟨(H5.out.1.keep0 hk6).keep0 ((Keep.refl _ _).alloc _), H5.out.2.trans (Keep.upTo (hk6.alloc _) (by simp))⟩)
      have dd : ∀ o, (z6.alloc o).cell? ⟨b8, 6, none⟩ = some (.int .u32 (bb' : Nat)) := fun o => (HCL.out _ (H6.out o).2).2.2.2.cells.2.2.2.2.2.2
      clear hk6 hP H5
      go_wp2_with fail
      refine (hb_pput (H6.out _).1 (by omega) (i := 3) (by simp) v2 f2 bb' (by omega) (by omega) (by omega) (by omega)).mono ?_
      rintro e z7 ⟨b1, T4, rfl, ⟨L1, lent1, hI, hq⟩, hH7, hk7⟩
      have hl1 := lent_one hI (k := 0) (n := v1 / 1024) (fun k' n' _ _ ht => by
        by_cases hk' : k' = 0
        · subst hk'
          refine ⟨rfl, ?_⟩
          by_cases hn : n' = v1 / 1024
          · exact hn
          · rw [H4.out.2.2.2.2 n' hn] at ht; cases ht
        · rw [H4.out.2.2.2.1 k' hk'] at ht; cases ht)
      obtain ⟨rfl, hpm⟩ := put_room hI (n := 1) (by decide) (.inl (Nat.lt_of_le_of_lt hl1 (by decide))) ⟨by omega, fun h => by omega, by omega, by omega⟩ hq
      have H7 : Hid (HB z7 x3.heap.size B q r fb g p pm (9 % 10) (1 + 3 % 8) rb sh ga gc ea ec T4 (setUp (setUp (fun _ => false) 0 u) 1 u') ((A0.take 0 ap ar u).take 1 bp br u') [2, 3, 0, 1] true 0 (0 + 1 + 1) (0 + 2 + 2) R0 (List.range (1 + 3 % 8)) false 0 ∧ KeepUp x3.heap.size x3 z7 ∧ (∀ v, v / 1024 < 32 → leads (T4 0) v = if v / 64 = v1 / 64 then entryOf f1 bb else 0)) := Lib.hid ⟨hH7, (H6.out _).2.trans hk7, fun v hv => by rw [(put_leads hpm).2.2.1 0 (by decide)]; exact H4.out.2.2.1 v hv⟩
      clear hq hH7 hk7 hI hl1 hpm hbounds dd H6
      obtain ⟨⟨ca0, ca1⟩, ⟨cb0, cb1⟩, hs7, hs8⟩ := HCL.out z7 H7.out.2.1
      obtain ⟨-, -, -, e3, e4, e5, e6⟩ := hs7.cells
      obtain ⟨-, -, -, d3, d4, d5, d6⟩ := hs8.cells
      clear hs7 hs8
      go_wp2_with fail
      refine (hb_pselect H7.out.1 (by omega) (by omega) ap ar (!u)).mono ?_
      rintro e z8 ⟨rr, A3, age3, T5, up3, k3, l3, rfl, hq, hH8, hk8⟩
      have hq2 : rr = true ∧ A3 = (A0.take 0 ap ar u).take 1 bp br u' ∧ age3 = [2, 3, 1, 0] ∧ T5 = T4 ∧ up3 = setUp (setUp (fun _ => false) 0 u) 1 u' ∧ k3 = 0 + 1 ∧ l3 = 0 + 1 + 1 := by
        rcases hq with ⟨n, hnm, h, _, h1, h2, h3, h4, h5, h6, h7⟩ | ⟨hno, _⟩
        · have hn0 : n = 0 := by
            by_cases hn : n = 0
            · exact hn
            · exfalso
              unfold keyQ at h
              by_cases hn1 : n = 1
              · subst hn1
                have h' : (true && (bp == ap && br == ar)) = true := h
                have hh := HAB.out
                simp only [Bool.true_and, Bool.and_eq_true, beq_iff_eq] at h'
                rw [h'.1, h'.2] at hh
                simp at hh
              · have h' : ((A0.take 0 ap ar u).take 1 bp br u').tk n = false := by
                  show updN (updN (fun _ => false) 0 true) 1 true n = false
                  rw [updN_ne hn1, updN_ne hn]
                rw [h'] at h; cases h
          subst hn0
          exact ⟨h1, h2, h3.trans (show youngL [2, 3, 0, 1] 0 = [2, 3, 1, 0] by decide), h4, h5, h6, h7⟩
        · exfalso
          have h' : (true && (ap == ap && ar == ar)) = false := hno 0
          simp at h'
      obtain ⟨rfl, rfl, rfl, rfl, rfl, rfl, rfl⟩ := hq2
      have H8 : Hid (HB z8 x3.heap.size B q r fb g p pm (9 % 10) (1 + 3 % 8) rb sh ga gc ea ec T5 (setUp (setUp (fun _ => false) 0 u) 1 u') ((A0.take 0 ap ar u).take 1 bp br u') [2, 3, 1, 0] true (0 + 1) (0 + 1 + 1) (0 + 2 + 2) R0 (List.range (1 + 3 % 8)) false 0 ∧ KeepUp x3.heap.size x3 z8 ∧ (∀ v, v / 1024 < 32 → leads (T5 0) v = if v / 64 = v1 / 64 then entryOf f1 bb else 0)) := Lib.hid ⟨hH8, H7.out.2.1.trans hk8, H7.out.2.2⟩
      clear hq hH8 hk8 ca0 ca1 cb0 cb1 e3 e4 e5 e6 d3 d4 d5 d6
      go_wp2_with fail
      refine (hb_root H8.out.1 (i := 3) (by simp)).mono ?_
      rintro e z9 ⟨rfl, hk9⟩
      have H9 : Hid (HB z9 x3.heap.size B q r fb g p pm (9 % 10) (1 + 3 % 8) rb sh ga gc ea ec T5 (setUp (setUp (fun _ => false) 0 u) 1 u') ((A0.take 0 ap ar u).take 1 bp br u') [2, 3, 1, 0] true (0 + 1) (0 + 1 + 1) (0 + 2 + 2) R0 (List.range (1 + 3 % 8)) false 0 ∧ KeepUp x3.heap.size x3 z9) := Lib.hid ⟨H8.out.1.keep0 hk9, H8.out.2.1.trans (Keep.upTo hk9 (by simp))⟩
      clear hk9
      have hbounds := HV.out
      go_wp2_with fail
      refine (hb_look H9.out.1 (k := 0) (by decide) v1 (by omega)).mono ?_
      rintro e za ⟨hka, hP⟩
      have hle1 := H8.out.2.2 v1 (by omega)
      rw [if_pos rfl] at hle1
      have hP2 : ∃ a b c d : Nat, e = .returned (.tuple #[.agg #[.int .u32 (m2 : Nat), .int .u32 (a : Nat), .int .u32 (b : Nat), .int .i64 (c : Nat), .int .i64 (d : Nat), .int .i64 (f1 : Nat)], .bool true]) := by
        unfold entryOf at hle1
        rcases hP with ⟨h, _⟩ | ⟨f, b, a, e1, d, t, h1, h2, h3, h4, h5⟩
        · omega
        · obtain rfl : f = f1 := by omega
          obtain rfl : b = m2 := by rw [HM2.out]; omega
          exact ⟨_, _, _, _, h5⟩
      obtain ⟨wa, wb, wc, wd, rfl⟩ := hP2
      obtain ⟨bw, hbw⟩ : ∃ b, b = za.heap.size := ⟨_, rfl⟩
      have HA : Hid (∀ vs, (HB (za.alloc (.cells vs 36)) x3.heap.size B q r fb g p pm (9 % 10) (1 + 3 % 8) rb sh ga gc ea ec T5 (setUp (setUp (fun _ => false) 0 u) 1 u') ((A0.take 0 ap ar u).take 1 bp br u') [2, 3, 1, 0] true (0 + 1) (0 + 1 + 1) (0 + 2 + 2) R0 (List.range (1 + 3 % 8)) false 0) ∧ KeepUp x3.heap.size x3 (za.alloc (.cells vs 36)) ∧ (za.alloc (.cells vs 36)).heap[bw]? = some (.cells vs 36 (0, 0))) := Lib.hid (fun vs => ⟨(H9.out.1.keep0 hka).keep0 ((Keep.refl _ _).alloc _), H9.out.2.trans (Keep.upTo (hka.alloc _) (by simp)), heap_alloc_at _ hbw⟩)
      clear hka hP hle1 H9
      go_wp2_with fail
      rw [← hbw]
      generalize hzb : World.alloc za _ = zb
      have HZB : Hid (HB zb x3.heap.size B q r fb g p pm (9 % 10) (1 + 3 % 8) rb sh ga gc ea ec T5 (setUp (setUp (fun _ => false) 0 u) 1 u') ((A0.take 0 ap ar u).take 1 bp br u') [2, 3, 1, 0] true (0 + 1) (0 + 1 + 1) (0 + 2 + 2) R0 (List.range (1 + 3 % 8)) false 0 ∧ KeepUp x3.heap.size x3 zb ∧ zb.heap[bw]? = some (.cells #[.int .u32 (m2 : Nat), .int .u32 (wa : Nat), .int .u32 (wb : Nat), .int .i64 (wc : Nat), .int .i64 (wd : Nat), .int .i64 (f1 : Nat)] 36 (0, 0))) := Lib.hid (by
        subst hzb; exact HA.out _)
      clear hzb HA hbw hbounds
      refine (hb_root HZB.out.1 (i := 3) (by simp)).mono ?_
      rintro e zc ⟨rfl, hkc⟩
      have HZC : Hid (HB zc x3.heap.size B q r fb g p pm (9 % 10) (1 + 3 % 8) rb sh ga gc ea ec T5 (setUp (setUp (fun _ => false) 0 u) 1 u') ((A0.take 0 ap ar u).take 1 bp br u') [2, 3, 1, 0] true (0 + 1) (0 + 1 + 1) (0 + 2 + 2) R0 (List.range (1 + 3 % 8)) false 0 ∧ Keep [] zb zc) := Lib.hid ⟨HZB.out.1.keep0 hkc, hkc⟩
      clear hkc
      have hbounds := HV.out
      go_wp2_with fail
      refine (hb_look HZC.out.1 (k := 0) (by decide) v2 (by omega)).mono ?_
      rintro e zd ⟨hkd, hP⟩
      obtain ⟨w1, hw1⟩ : ∃ z, z = v1 / 64 := ⟨_, rfl⟩
      obtain ⟨w2, hw2⟩ : ∃ z, z = v2 / 64 := ⟨_, rfl⟩
      have hle2 := H8.out.2.2 v2 (by omega)
      rw [← hw1, ← hw2] at hle2
      have hP2 : ∃ (a b c : Nat) (d t pg : Nat) (ob : Bool), e = .returned (.tuple #[.agg #[.int .u32 (a : Nat), .int .u32 (b : Nat), .int .u32 (c : Nat), .int .i64 (d : Nat), .int .i64 (t : Nat), .int .i64 (pg : Nat)], .bool ob]) ∧ (w1 == w2) = ob := by
        unfold entryOf at hle2
        rcases hP with ⟨h, h'⟩ | ⟨f, b, a, e1, d, t, h1, h2, h3, h4, h5⟩
        · refine ⟨0, 0, 0, 0, 0, 0, false, h', ?_⟩
          rw [beq_eq_false_iff_ne]
          intro hh
          rw [if_pos hh.symm] at hle2
          omega
        · refine ⟨_, _, _, _, _, _, true, h5, ?_⟩
          rw [beq_iff_eq]
          by_cases hh : w2 = w1
          · exact hh.symm
          · rw [if_neg hh] at hle2; omega
      obtain ⟨xa, xb, xc, xd, xt, xp, ob, rfl, hob⟩ := hP2
      have t1 : (v1 : Int) / 64 = (w1 : Int) := by omega
      have t2 : (v2 : Int) / 64 = (w2 : Int) := by omega
      have t3 : (v1 : Int).tdiv 64 = (w1 : Int) := by rw [Int.tdiv_eq_ediv_of_nonneg (by omega)]; omega
      have t4 : (v2 : Int).tdiv 64 = (w2 : Int) := by rw [Int.tdiv_eq_ediv_of_nonneg (by omega)]; omega
      have t5 : ((w1 : Int) == (w2 : Int)) = ob := by
        rw [← hob]
        by_cases hh : w1 = w2
        · rw [hh]; simp
        · have : (w1 : Int) ≠ (w2 : Int) := by omega
          rw [beq_eq_false_iff_ne.2 this, beq_eq_false_iff_ne.2 hh]
      have t6 : (w1 : Int) % 4294967296 = (w1 : Int) := by omega
      have t7 : (w2 : Int) % 4294967296 = (w2 : Int) := by omega
      have hkb : ∀ o, Keep [] zb (zd.alloc o) := fun o => (HZC.out.2.trans hkd).alloc o
      have l0 : ∀ o, (zd.alloc o).cell? ⟨bw, 0, none⟩ = some (.int .u32 (m2 : Nat)) := fun o => (hkb o).cell (cell_of HZB.out.2.2 0 rfl) (by simp)
      have l5 : ∀ o, (zd.alloc o).cell? ⟨bw, 5, none⟩ = some (.int .i64 (f1 : Nat)) := fun o => (hkb o).cell (cell_of HZB.out.2.2 5 rfl) (by simp)
      have l6 : ∀ o, (zd.alloc o).cell? ⟨b7, 6, none⟩ = some (.int .u32 (bb : Nat)) := fun o => (hkb o).cell ((HCL.out _ HZB.out.2.1).2.2.1.cells.2.2.2.2.2.2) (by simp)
      have HFK : Hid (∀ o z5, Keep [] (zd.alloc o) z5 → Below w.heap.size w z5) := Lib.hid (fun o z5 h => (HW.out.trans ((KeepUp.nil HZB.out.2.1).trans ((hkb o).trans h))).below (Nat.le_refl _) (by simp))
      clear hkd hP hle2 hw1 hw2 hbounds hkb HZC HZB
      go_wp2_with fail
      refine (spworks_at _).mono ?_
      rintro e z5 ⟨rfl, hk5⟩
      have HF := Lib.hid (HFK.out _ _ hk5)
      clear hk5 HFK l0 l5 l6
      go_wp2_with fail
      go_ret
      exact ⟨rfl, HF.out⟩
end Go.Proofs.Ytpinoejckagjbaa
