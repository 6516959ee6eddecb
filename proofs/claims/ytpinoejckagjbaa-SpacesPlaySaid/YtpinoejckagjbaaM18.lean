/- Contracts of the functions that the law reaches, walked, and the plain laws on them (several texts in one). -/
import Derived.Outline
import Derived.Test.YtpinoejckagjbaaM17

/- The upper half is laid anew. -/
namespace Go.Proofs.Ytpinoejckagjbaa
open Go.RowKit Go.Mum
set_option linter.unusedVariables false
set_option linter.unusedSimpArgs false
set_option maxRecDepth 100000

theorem ShU.rangeTab {w : World} {s r p : Nat} {dir : Int} {uv : Value} {T : Nat → Tab} (h : ShU w s r p dir uv T) {n : Nat} (hn : n < 32) : w.rangeAt s (3 + n * 18) (tabL (T n)) := fun j v hj => by
  obtain ⟨hlt, _⟩ := List.getElem?_eq_some_iff.1 hj
  rw [tabL_len] at hlt
  have h1 := tabL_at (T n) hlt
  rw [List.getD_eq_getElem?_getD, hj] at h1
  simp only [Option.getD_some] at h1
  rw [h1, ArrAt.cell h (by omega)]
  congr 1
  unfold shCellU
  rw [if_neg (show ¬ (3 + n * 18 + j = 0) by omega), if_neg (show ¬ (3 + n * 18 + j = 1) by omega), if_neg (show ¬ (3 + n * 18 + j = 2) by omega), if_neg (show ¬ (3 + n * 18 + j = 579) by omega), show (3 + n * 18 + j - 3) % 18 = j by omega, show (3 + n * 18 + j - 3) / 18 = n by omega]

theorem wpList_neq {P : Program} {ops : Array Oper} {rest : List Oper} {op : Oper} {a : Act} {w : World} {Q : Exit → Act → World → Prop} (hgd : op.guard = none) (ty tr : TypeId) (x y : Operand) (ho : op.op = .binOp .neq ty x y tr) (u v : Value) (hx : a.eval x = u) (hy : a.eval y = v) (b : Bool)
    (hr : ((do eqGuard .neq ty x y u v; binOp .neq ty u v) : Sem Value).run P w = .ok (.bool b) w) (h : wpList P ops Q rest (a.put op.dst (.bool b)) w) : wpList P ops Q (op :: rest) a w :=
  wpList_plain hgd fun _ hK => by
    unfold Oper.wp execOp
    simp only [ho, hx, hy, Sem.run_bind, Sem.run_pure] at hr ⊢
    rw [hr]
    simp only [Result.andThen_ok]
    exact hK _ _ h

theorem neq_ents (w : World) : ((do eqGuard .neq 107 (.tmp 28) (.tmp 29) (.agg (entL tab0).toArray) (.agg (entL tab0).toArray); binOp .neq 107 (.agg (entL tab0).toArray) (.agg (entL tab0).toArray)) : Sem Value).run Try.prog w = .ok (.bool false) w := by kernel_rfl

/-- What the laying of an upper half leaves. -/
def UpperPost (s r fb g p pm nf dir P0 most : Nat) (us : List Nat) (L lent : List Int) (c : Nat) (w : World) (e : Ending) (w' : World) : Prop :=
  e = .returned (.bool true) ∧ Keep [s, g] w w' ∧ ∃ ub uc, URaw w' s r fb g p pm nf dir P0 most (.slice ub us.length uc) (fun _ => tab0) (layUp L (64 * dir + 64) (us ++ List.replicate (16 - us.length) 0)) lent c ∧ UpR w' ub us (List.range w.heap.size)

set_option maxHeartbeats 4000000 in
theorem uupper_at {w : World} {s r fb g p pm nf dir P0 most ec : Nat} {uv : Value} {ea : Option Addr} {us : List Nat} {L lent : List Int} {c : Nat} (h : URaw w s r fb g p pm nf dir P0 most uv (fun _ => tab0) L lent c) (hE : UpR w ea us [s, g]) (hE0 : us = [] → ea = none ∧ ec = 0) :
    Calls Try.prog 63 #[.pointer (some ⟨s, 0, none⟩), .slice ea us.length ec] w (UpperPost s r fb g p pm nf dir P0 most us L lent c w) := by
  have HS := Lib.hid h
  have HE := Lib.hid hE
  have HE0 := Lib.hid hE0
  obtain ⟨j0, hj, hy0, hy1, hy2⟩ := info_parts info_u32
  have hle := hE.le
  have hne := h.ne
  obtain ⟨c0, c1, c2, c3⟩ := h.sh.heads
  have C0 := Lib.hid (snone_at c0)
  have hl16 : ¬ ((16 : Int) < (us.length : Int)) := by omega
  have hl16' : ¬ (16 < us.length) := by omega
  clear h hE hE0
  go_enter Try.func63, Try.ntmps63
  go_wp2_with fail
  refine C0.out.mono ?_
  rintro e w' ⟨rfl, rfl⟩
  go_wp2_with fail
  go_loopw [6, 23] (fun tv kv wr => ∃ (k : Nat) (t : Value), tv = t ∧ kv = .int .i64 k ∧ k ≤ 16 ∧ Hid (Keep [] w wr)) (fun _ kv _ => 16 - (intOf kv).toNat)
  case atStart => exact ⟨0, _, rfl, rfl, by omega, Lib.hid (Keep.refl _ _)⟩
  case round =>
    obtain ⟨k, tv, rfl, rfl, hk1, HR⟩ := hrel
    rename World => wo
    by_cases hk2 : k < 16
    · have hi : (k : Int) < 16 := by omega
      have hi0 : (0 : Int) ≤ (k : Int) := by omega
      have hrt := (HS.out.sh.keep HR.out (by simp)).rangeTab (n := 16 + k) (by omega)
      rw [show 3 + (16 + k) * 18 = 291 + k * 18 by omega] at hrt
      have HK1 : Hid (k + 1 ≤ 16) := Lib.hid (by omega)
      clear hk1 hk2
      have hrng : (wo.alloc (.cells (tabL tab0).toArray 109)).rangeAt wo.heap.size 2 (entL tab0) := fun j v hj => by
        have hc : (wo.alloc (.cells (tabL tab0).toArray 109)).heap[wo.heap.size]? = some (.cells (tabL tab0).toArray 109 (0, 0)) := heap_alloc_same wo _
        refine cell_of hc (2 + j) ?_
        rw [List.getElem?_toArray, Nat.add_comm 2 j]
        exact hj
      go_wp2_with (first
        | (refine wpList_load_mid rfl 109 (.tmp 25) rfl s (291 + k * 18) (by rfl) (tabL tab0) _ hrt Try.underlying109 rfl (by rw [tabL_len]; exact info_table) ?_)
        | (refine wpList_store_new rfl 109 (.tmp 6) (.tmp 26) rfl wo _ (tabL tab0).toArray rfl (by rfl) (by rfl) (by rw [List.size_toArray, tabL_len]; exact info_table) (by simp [tabL_len]) (tabL_one _) ?_)
        | (refine wpList_load_mid rfl 107 (.tmp 27) rfl wo.heap.size 2 (by rfl) (entL tab0) _ hrng Try.underlying107 rfl (by rw [entL_len]; exact info_ents) ?_)
        | (refine wpList_build rfl 107 #[] rfl (.agg (entL tab0).toArray) (by exact build_ents _) ?_)
        | (refine wpList_neq rfl 107 107 (.tmp 28) (.tmp 29) rfl (.agg (entL tab0).toArray) (.agg (entL tab0).toArray) (by rfl) (by rfl) false (by exact neq_ents _) ?_))
      go_roundw
      case rel => exact ⟨k + 1, _, rfl, by go_num, HK1.out, Lib.hid (HR.out.alloc _)⟩
      case measure => simp [intOf]; omega
    · have hi : ¬ ((k : Int) < 16) := by omega
      obtain rfl : k = 16 := by omega
      clear hk1 hk2
      go_wp2_with fail
      go_loopw [7, 8, 37] (fun av bv kv wr => ∃ (k : Nat) (a b : Value), av = a ∧ bv = b ∧ kv = .int .i64 k ∧ k ≤ 16 ∧ wo = wr) (fun _ _ kv _ => 16 - (intOf kv).toNat)
      case atStart => exact ⟨0, _, _, rfl, rfl, rfl, by omega, rfl⟩
      case round =>
        obtain ⟨k, av, bv, rfl, rfl, rfl, hk1, rfl⟩ := hrel
        by_cases hk2 : k < 16
        · have hi : (k : Int) < 16 := by omega
          have hi0 : (0 : Int) ≤ (k : Int) := by omega
          obtain ⟨kk, hkk⟩ : ∃ z, z = 16 + k := ⟨_, rfl⟩
          have e1 : IntKind.i64.wrap (kk : Int) = (kk : Int) := IntWalk.i64_in _ (by omega)
          have e1' : (16 : Int) + (k : Int) = (kk : Int) := by omega
          have hk32 : (kk : Int) < 32 := by omega
          have hth := (HS.out.sh.keep HR.out (by simp)).th (n := kk) (by omega)
          replace hth : wo.cell? ⟨s, 3 + kk * 18, none⟩ = some (.bool false) := hth
          clear hkk hk2
          go_wp2_with fail
          go_roundw
          case rel => exact ⟨k + 1, _, _, rfl, rfl, by go_num, by omega, trivial⟩
          case measure => simp [intOf]; omega
        · have hi : ¬ ((k : Int) < 16) := by omega
          obtain rfl : k = 16 := by omega
          clear hk1 hk2
          have hcases : (us = [] ∧ ea = none ∧ ec = 0) ∨ (us ≠ [] ∧ ∃ b o, ea = some ⟨b, o, none⟩ ∧ ∀ k (hk : k < us.length), wo.cell? ⟨b, o + k, none⟩ = some (.int .u32 (us[k] : Nat))) := by
            rcases (HE.out.keep HR.out (by simp)).row with h | ⟨b, o, h1, _, h3⟩
            · exact .inl ⟨h, HE0.out h⟩
            · by_cases h0 : us = []
              · exact .inl ⟨h0, HE0.out h0⟩
              · exact .inr ⟨h0, b, o, h1, h3⟩
          have H1 : Hid (∀ z, Keep [] wo z → URaw z s r fb g p pm nf dir P0 most uv (fun _ => tab0) L lent c ∧ UpR z ea us [s, g] ∧ Keep [] w z) := Lib.hid (fun z hz => ⟨HS.out.keep0 (HR.out.trans hz), HE.out.keep (HR.out.trans hz) (by simp), HR.out.trans hz⟩)
          have hrow : (wo.alloc (.cells #[] 22)).ownsRow wo.heap.size 22 1 (.slice (some ⟨wo.heap.size, 0, none⟩) 0 0) 0 [] := ⟨rfl, .inr ⟨_, 0, #[], rfl, Nat.le_refl _, heap_alloc_same wo _, Nat.le_refl _, by unfold maxLen; omega, rfl, rfl⟩⟩
          rcases hcases with ⟨rfl, rfl, rfl⟩ | ⟨hne0, b, o, rfl, hcell⟩
          · have c3a : ∀ ob, (wo.alloc ob).cell? ⟨s, 579, none⟩ = some uv := fun ob => (HR.out.alloc ob).cell c3 (by simp)
            have f3a : ∀ ob, (wo.alloc ob).frozen? ⟨s, 579, none⟩ = false := fun ob => ArrAt.frozen (HS.out.sh.keep (HR.out.alloc ob) (by simp)) _
            have HUB : Hid (Keep [] wo (wo.alloc (.cells #[] 22))) := Lib.hid ((Keep.refl [] wo).alloc _)
            clear hrow
            go_wp2_with fail
            obtain ⟨ub, hub⟩ : ∃ ub, ub = some (⟨wo.heap.size, 0, none⟩ : Addr) := ⟨_, rfl⟩
            obtain ⟨uc, huc⟩ : ∃ uc, uc = 0 := ⟨_, rfl⟩
            have hval : (Value.slice (some ⟨wo.heap.size, 0, none⟩) 0 0) = .slice ub 0 uc := by rw [hub, huc]
            rw [hval]
            obtain ⟨A, hA⟩ : ∃ A : List Nat, A = [] ++ List.replicate (16 - ([] : List Nat).length) 0 := ⟨_, rfl⟩
            have HA : Hid (A = [] ++ List.replicate (16 - ([] : List Nat).length) 0 ∧ ∀ e ∈ A, e < 4294967296) := Lib.hid ⟨hA, fun e he => by
              have : e = 0 := by rw [hA] at he; simpa using he
              omega⟩
            have HA0 : Hid (∀ k (h : k < A.length), A[k] = 0) := Lib.hid (fun k h => by subst hA; simp only [List.nil_append]; rw [List.getElem_replicate])
            have hAl : A.length = 16 := by rw [hA]; rfl
            generalize hy : World.setCell _ _ _ = y
            have HY : Hid (URaw y s r fb g p pm nf dir P0 most (.slice ub 0 uc) (fun _ => tab0) (layUp L (64 * dir + 64) (A.take 0)) lent c ∧ UpR y ub [] (List.range w.heap.size) ∧ UpR y none [] [s, g] ∧ Keep [s, g] w y) := Lib.hid (by
              subst hy
              have hk := keepSet (HUB.out.weaken (l' := [s]) (by simp)) (b := s) (by simp) 579 (.slice ub 0 uc)
              have h1 := H1.out _ HUB.out
              obtain ⟨tk, sh, hp, hb⟩ := h1.1.pool
              have hks : Keep [s] (wo.alloc (.cells #[] 22)) ((wo.alloc (.cells #[] 22)).setCell ⟨s, 579, none⟩ (.slice ub 0 uc)) := keepSet (Keep.refl _ _) (by simp) _ _
              exact ⟨⟨h1.1.sh.upper _, h1.1.ram.keep hks (by simp; omega) (by simp; omega) (by simp; omega), h1.1.len, ⟨tk, sh, hp.keep hks (by simp; omega) (by simp; omega), hb⟩, h1.1.nfb, h1.1.hd, h1.1.hp, h1.1.ne⟩, ⟨by simp, by simp, .inl rfl⟩, ⟨by simp, by simp, .inl rfl⟩, (h1.2.2.weaken (by simp)).trans (hks.weaken (by simp))⟩)
            clear hy hub huc hval hA HUB H1 c3a f3a HE HE0 HR
            go_wp2_with fail
            go_loopw [9, 10, 69] (fun av bv kv wr => ∃ (k : Nat) (za zb : Value), av = za ∧ bv = zb ∧ kv = .int .i64 k ∧ k ≤ 16 ∧ Hid (URaw wr s r fb g p pm nf dir P0 most (.slice ub 0 uc) (fun _ => tab0) (layUp L (64 * dir + 64) (A.take k)) lent c ∧ UpR wr ub [] (List.range w.heap.size) ∧ UpR wr none [] [s, g] ∧ Keep [s, g] w wr)) (fun _ _ kv _ => 16 - (intOf kv).toNat)
            case atStart => exact ⟨0, _, _, rfl, rfl, rfl, by omega, HY⟩
            case round =>
              clear HY
              obtain ⟨k, av, bv, rfl, rfl, rfl, hk1, HQ⟩ := hrel
              rename World => wq
              by_cases hk2 : k < 16
              · have hi : (k : Int) < 16 := by omega
                have hi0 : (0 : Int) ≤ (k : Int) := by omega
                obtain ⟨kk, hkk⟩ : ∃ z, z = 16 + k := ⟨_, rfl⟩
                obtain ⟨pp, hpp⟩ : ∃ z, z = 64 * dir + 4 * kk := ⟨_, rfl⟩
                have e1 : IntKind.i64.wrap (kk : Int) = (kk : Int) := IntWalk.i64_in _ (by omega)
                have e1' : (16 : Int) + (k : Int) = (kk : Int) := by omega
                have e2 : IntKind.u32.wrap (kk : Int) = (kk : Int) := IntWalk.u32_in _ (by omega)
                have e3 : IntKind.u32.wrap (4 * (kk : Int)) = 4 * (kk : Int) := IntWalk.u32_in _ (by omega)
                have e4 : IntKind.u32.wrap (64 * (dir : Int) + 4 * (kk : Int)) = (pp : Int) := by have := HQ.out.1.hd; have := HQ.out.1.nfb; rw [IntWalk.u32_in _ (by omega)]; omega
                have HPP := Lib.hid (And.intro hkk hpp)
                have hAk : k < A.length := by omega
                have HT : Hid (A.take (k + 1) = A.take k ++ [A[k]]) := Lib.hid (by rw [List.take_add_one, List.getElem?_eq_getElem hAk]; rfl)
                have hel : A[k] < 4294967296 := HA.out.2 _ (List.getElem_mem hAk)
                obtain ⟨q0, q1, q2, q3⟩ := HQ.out.1.sh.heads
                have hroot : Hid (∀ u : World, u.cell? ⟨s, 0, none⟩ = some (.pointer (some ⟨r, 0, none⟩)) → u.cell? ⟨s, 2, none⟩ = some (.int .i64 dir) → Calls Try.prog 16 #[.pointer (some ⟨s, 0, none⟩)] u fun e w' => e = .returned (.int .u32 (64 * (dir : Int))) ∧ u = w') := Lib.hid (fun u h1 h2 => by
                  have := sroot_at (dir := dir) h1 h2 (by have := HQ.out.1.hd; have := HQ.out.1.nfb; omega)
                  rw [show ((64 * dir : Nat) : Int) = 64 * (dir : Int) by omega] at this
                  exact this)
                have CW := Lib.hid (fun (u : World) (hu : Keep [] wq u) => setword_c (HQ.out.1.ram.keep0 hu) HQ.out.1.len HQ.out.1.nfb pp A[k] ⟨by have := HPP.out; omega, by have := HPP.out; have := HQ.out.1.hd; omega⟩ hel)
                have hA0 : A[k] = 0 := HA0.out k hAk
                rw [hA0] at CW HT
                clear hA0 hkk hpp hk1 hAk hel
                go_wp2_with fail
                refine wp_region_held_drew (S := fun x => x.cell? ⟨s, 0, none⟩ = some (.pointer (some ⟨r, 0, none⟩)) ∧ x.cell? ⟨s, 2, none⟩ = some (.int .i64 dir)) (by kernel_rfl) ⟨q0, q2⟩ (fun hHeld => ?_)
                skip
                refine wpAnyH_take (i := 0) (oi := { dst := some 80, op := Op.move (Operand.tmp 0), type := 27, pos := "shadow.go:160", after := #[], guard := none }) (v := ?_) rfl (by kernel_rfl) (by kernel_rfl) (by kernel_rfl) (fun _ _ _ h => h) (Or.inl ⟨by rfl, ?_⟩) (by assumption) ?_
                rotate_left
                focus (intro w hSw; (try dsimp only at hSw); go_simp <;> with_reducible rfl)
                try simp only [Act.put, List.setIfInBounds_toArray, List.set_cons_zero, List.set_cons_succ]
                refine wpAnyH_take (i := 1) (oi := { dst := some 81, op := Op.nilCheck (Operand.tmp 80), type := 0, pos := "shadow.go:160", after := #[{ on := 0, ground := Ground.data }], guard := none }) (v := ?_) rfl (by kernel_rfl) (by kernel_rfl) (by kernel_rfl) (fun _ _ _ h => h) (Or.inl ⟨by rfl, ?_⟩) (by assumption) ?_
                rotate_left
                focus (intro w hSw; (try dsimp only at hSw); go_simp <;> with_reducible rfl)
                try simp only [Act.put, List.setIfInBounds_toArray, List.set_cons_zero, List.set_cons_succ]
                refine wpAnyH_take (i := 2) (oi := { dst := some 82, op := Op.fieldAddr 112 (Operand.tmp 81) 0, type := 0, pos := "shadow.go:160", after := #[{ on := 1, ground := Ground.data }], guard := none }) (v := ?_) rfl (by kernel_rfl) (by kernel_rfl) (by kernel_rfl) (fun _ _ _ h => h) (Or.inl ⟨by rfl, ?_⟩) (by assumption) ?_
                rotate_left
                focus (intro w hSw; (try dsimp only at hSw); go_simp <;> with_reducible rfl)
                try simp only [Act.put, List.setIfInBounds_toArray, List.set_cons_zero, List.set_cons_succ]
                refine wpAnyH_take (i := 3) (oi := { dst := some 83, op := Op.load 26 (Operand.tmp 82), type := 26, pos := "shadow.go:160", after := #[{ on := 2, ground := Ground.data }], guard := none }) (v := ?_) rfl (by kernel_rfl) (by kernel_rfl) (by kernel_rfl) (fun _ _ _ h => h) (Or.inl ⟨by rfl, ?_⟩) (by assumption) ?_
                rotate_left
                focus (intro w hSw; (try dsimp only at hSw); go_simp <;> with_reducible rfl)
                try simp only [Act.put, List.setIfInBounds_toArray, List.set_cons_zero, List.set_cons_succ]
                refine wpAnyH_take (i := 4) (oi := { dst := some 84, op := Op.move (Operand.tmp 0), type := 27, pos := "shadow.go:160", after := #[], guard := none }) (v := ?_) rfl (by kernel_rfl) (by kernel_rfl) (by kernel_rfl) (fun _ _ _ h => h) (Or.inl ⟨by rfl, ?_⟩) (by assumption) ?_
                rotate_left
                focus (intro w hSw; (try dsimp only at hSw); go_simp <;> with_reducible rfl)
                try simp only [Act.put, List.setIfInBounds_toArray, List.set_cons_zero, List.set_cons_succ]
                refine wpAnyH_take (i := 6) (oi := { dst := some 86, op := Op.move (Operand.tmp 9), type := 3, pos := "shadow.go:160", after := #[], guard := none }) (v := ?_) rfl (by kernel_rfl) (by kernel_rfl) (by kernel_rfl) (fun _ _ _ h => h) (Or.inl ⟨by rfl, ?_⟩) (by assumption) ?_
                rotate_left
                focus (intro w hSw; (try dsimp only at hSw); go_simp <;> with_reducible rfl)
                try simp only [Act.put, List.setIfInBounds_toArray, List.set_cons_zero, List.set_cons_succ]
                refine wpAnyH_take (i := 7) (oi := { dst := some 87, op := Op.binOp BinOp.add 3 (Operand.const (Value.int IntKind.i64 16)) (Operand.tmp 86) 3, type := 3, pos := "shadow.go:160", after := #[{ on := 6, ground := Ground.data }], guard := none }) (v := ?_) rfl (by kernel_rfl) (by kernel_rfl) (by kernel_rfl) (fun _ _ _ h => h) (Or.inl ⟨by rfl, ?_⟩) (by assumption) ?_
                rotate_left
                focus (intro w hSw; (try dsimp only at hSw); go_simp <;> with_reducible rfl)
                try simp only [Act.put, List.setIfInBounds_toArray, List.set_cons_zero, List.set_cons_succ]
                refine wpAnyH_take (i := 8) (oi := { dst := some 88, op := Op.convert 3 22 (Operand.tmp 87), type := 22, pos := "shadow.go:160", after := #[{ on := 7, ground := Ground.data }], guard := none }) (v := ?_) rfl (by kernel_rfl) (by kernel_rfl) (by kernel_rfl) (fun _ _ _ h => h) (Or.inl ⟨by rfl, ?_⟩) (by assumption) ?_
                rotate_left
                focus (intro w hSw; (try dsimp only at hSw); go_simp <;> with_reducible rfl)
                try simp only [Act.put, List.setIfInBounds_toArray, List.set_cons_zero, List.set_cons_succ]
                refine wpAnyH_take (i := 9) (oi := { dst := some 89, op := Op.binOp BinOp.mul 22 (Operand.const (Value.int IntKind.u32 4)) (Operand.tmp 88) 22, type := 22, pos := "shadow.go:160", after := #[{ on := 8, ground := Ground.data }], guard := none }) (v := ?_) rfl (by kernel_rfl) (by kernel_rfl) (by kernel_rfl) (fun _ _ _ h => h) (Or.inl ⟨by rfl, ?_⟩) (by assumption) ?_
                rotate_left
                focus (intro w hSw; (try dsimp only at hSw); go_simp <;> with_reducible rfl)
                try simp only [Act.put, List.setIfInBounds_toArray, List.set_cons_zero, List.set_cons_succ]
                refine wpAnyH_take (i := 11) (oi := { dst := some 91, op := Op.move (Operand.tmp 10), type := 22, pos := "shadow.go:160", after := #[], guard := none }) (v := ?_) rfl (by kernel_rfl) (by kernel_rfl) (by kernel_rfl) (fun _ _ _ h => h) (Or.inl ⟨by rfl, ?_⟩) (by assumption) ?_
                rotate_left
                focus (intro w hSw; (try dsimp only at hSw); go_simp <;> with_reducible rfl)
                try simp only [Act.put, List.setIfInBounds_toArray, List.set_cons_zero, List.set_cons_succ]
                refine wpAnyH_ready (rs := [5]) (by kernel_rfl) (by simp) ?_
                refine AllReadyH.cons (o := { dst := some 85, op := Op.call { callee := Callee.value (Operand.func 16), args := #[Operand.tmp 84], argTypes := #[27] }, type := 22, pos := "shadow.go:160", after := #[{ on := 4, ground := Ground.data }], guard := none }) rfl (fun K hK => ?_) AllReadyH.nil
                go_simp
                refine (hroot.out _ hHeld.1 hHeld.2).mono ?_
                rintro e u1 ⟨rfl, rfl⟩
                go_wp2_with fail
                refine shut_grow (fun x => x.cell? ⟨s, 0, none⟩ = some (.pointer (some ⟨r, 0, none⟩)) ∧ x.cell? ⟨s, 2, none⟩ = some (.int .i64 dir)) hK (fun _ h => h) hHeld (fun hHeld => ?_)
                clear hK K hroot
                refine wpAnyH_take (i := 10) (oi := { dst := some 90, op := Op.binOp BinOp.add 22 (Operand.tmp 85) (Operand.tmp 89) 22, type := 22, pos := "shadow.go:160", after := #[{ on := 5, ground := Ground.data }, { on := 9, ground := Ground.data }], guard := none }) (v := ?_) rfl (by kernel_rfl) (by kernel_rfl) (by kernel_rfl) (fun _ _ _ h => h) (Or.inl ⟨by rfl, ?_⟩) (by assumption) ?_
                rotate_left
                focus (intro w hSw; (try dsimp only at hSw); go_simp <;> with_reducible rfl)
                try simp only [Act.put, List.setIfInBounds_toArray, List.set_cons_zero, List.set_cons_succ]
                refine wpAnyH_ready (rs := [12]) (by kernel_rfl) (by simp) ?_
                refine AllReadyH.cons (o := { dst := some 92, op := Op.call { callee := Callee.value (Operand.func 82), args := #[Operand.tmp 83, Operand.tmp 90, Operand.tmp 91], argTypes := #[26, 22, 22] }, type := 4, pos := "shadow.go:160", after := #[{ on := 3, ground := Ground.data }, { on := 10, ground := Ground.data }, { on := 11, ground := Ground.data }, { on := 5, ground := Ground.chain }], guard := none }) rfl (fun K hK => ?_) AllReadyH.nil
                go_simp
                refine (CW.out _ (Keep.refl [] wq).drew).mono ?_
                rintro e u2 ⟨rfl, hR2, hk2⟩
                have HN : Hid (URaw u2 s r fb g p pm nf dir P0 most (.slice ub 0 uc) (fun _ => tab0) (layUp L (64 * dir + 64) (A.take (k + 1))) lent c ∧ UpR u2 ub [] (List.range w.heap.size) ∧ UpR u2 none [] [s, g] ∧ Keep [s, g] w u2) := Lib.hid (by
                  have hkq : Keep [g] wq u2 := ((Keep.refl [] wq).drew.weaken (by simp)).trans hk2
                  have hgl : g < w.heap.size := lt_of_heap HS.out.ram.data
                  obtain ⟨tk, sh, hp, hb⟩ := HQ.out.1.pool
                  refine ⟨⟨HQ.out.1.sh.keep hkq (by simp; omega), ?_, ?_, ⟨tk, sh, hp.keep hkq (by simp; omega) (by simp; omega), hb⟩, HQ.out.1.nfb, HQ.out.1.hd, HQ.out.1.hp, HQ.out.1.ne⟩, HQ.out.2.1.keep hkq (by simp; exact hgl), HQ.out.2.2.1.keep hkq (by simp), HQ.out.2.2.2.trans (hkq.weaken (by simp))⟩
                  · rw [HT.out, layUp_snoc, List.length_take, Nat.min_eq_left (by have := HA.out.1; omega), show 64 * dir + 64 + 4 * k = pp by have := HPP.out; omega]
                    exact hR2
                  · rw [HT.out, layUp_snoc, length_splice' _ _ _ (by rw [HQ.out.1.len, le4_len, List.length_take, Nat.min_eq_left (by omega)]; have := HPP.out; have := HQ.out.1.hd; omega), HQ.out.1.len])
                obtain ⟨p0, p1, p2, p3⟩ := HN.out.1.sh.heads
                clear hR2 hk2
                go_wp2_with fail
                refine shut_grow (fun x => x = u2) hK (fun _ h => by rw [h]; exact ⟨p0, p2⟩) rfl (fun hHeld => ?_)
                clear hK K
                skip
                refine wpAnyH_done (by kernel_rfl) ?_ _
                clear hHeld
                go_wp2_with fail
                go_roundw
                case rel => exact ⟨k + 1, _, _, rfl, rfl, by go_num, by omega, HN⟩
                case measure => simp [intOf]; omega
              · have hi : ¬ ((k : Int) < 16) := by omega
                obtain rfl : k = 16 := by omega
                have HF : Hid (UpperPost s r fb g p pm nf dir P0 most [] L lent c w (.returned (.bool true)) wq) := Lib.hid (by
                  have h1 := HQ.out
                  rw [List.take_of_length_le (by omega), HA.out.1] at h1
                  exact ⟨rfl, h1.2.2.2, ub, uc, h1.1, h1.2.1⟩)
                go_wp2_with fail
                go_ret
                exact HF.out
          · have hnews : ∀ (x : World), Keep [] wo x → ∀ j u, (us.map fun z => Value.int .u32 ((z : Nat) : Int))[j]? = some u → x.cell? ((⟨b, o, none⟩ : Addr).add j) = some u := fun x hx j u hj => by
              have hadd : (⟨b, o, none⟩ : Addr).add j = ⟨b, o + j, none⟩ := by unfold Addr.add; split <;> simp_all
              obtain ⟨hlt, _⟩ := List.getElem?_eq_some_iff.1 hj
              rw [List.length_map] at hlt
              rw [List.getElem?_map, List.getElem?_eq_getElem hlt] at hj
              rw [hadd, hx.cell (hcell j hlt) (by simp)]
              exact hj
            have HNW := Lib.hid hnews
            have hsl : s < wo.heap.size := ArrAt.lt (HS.out.sh.keep HR.out (by simp))
            have HAP : Hid (∀ v' w1, w1.ownsRow wo.heap.size 22 1 v' (0 + us.length) ([] ++ us.map fun z => .int .u32 ((z : Nat) : Int)) → (wo.alloc (.cells #[] 22)).grownBy w1 (Value.slice (some ⟨wo.heap.size, 0, none⟩) 0 0).ownBlock → Keep [] wo w1 ∧ w1.cell? ⟨s, 579, none⟩ = some uv ∧ w1.frozen? ⟨s, 579, none⟩ = false) := Lib.hid (fun v' w1 ho hg => by
              have hk : Keep [] wo w1 := by
                refine ⟨hg.os.trans rfl, hg.tape.trans rfl, hg.output.trans rfl, by have := hg.size; simp at this; omega, fun z hz _ => ?_⟩
                rw [hg.block z (by simp; omega) (by simp [Value.ownBlock]; omega), Below.heap_alloc _ _ _ hz]
              exact ⟨hk, (HR.out.trans hk).cell c3 (by simp), ArrAt.frozen (HS.out.sh.keep (HR.out.trans hk) (by simp)) _⟩)
            clear hnews hcell
            go_wp2_with (at_builtin; (refine wpList_append_own _ rfl _ _ 44 rfl wo.heap.size 22 j0 (.int .u32 0) 1 4 Try.underlying44 hj hy0 hy1 hy2 rfl (by decide) _ _ _ rfl hrow ⟨b, o, none⟩ us.length ec (us.map fun z => .int .u32 ((z : Nat) : Int)) rfl (by simp) (HNW.out _ ((Keep.refl [] wo).alloc _)) (by intro u hu; obtain ⟨z, _, rfl⟩ := List.mem_map.1 hu; rfl) (by unfold maxLen; omega) (by omega) (by simp) ?_; intro v' w1 hown' hgrow _; have HG := HAP.out v' w1 hown' hgrow; have hc5 := HG.2.1; have hf5 := HG.2.2; have hfm := own_form hown'; obtain ⟨ub, uc, hv⟩ := hfm; rw [Nat.zero_add] at hv; subst hv; have HO := Lib.hid (And.intro hown' HG.1); clear hown' hgrow HG))
            generalize hy : World.setCell _ _ _ = y
            obtain ⟨A, hA⟩ : ∃ A : List Nat, A = us ++ List.replicate (16 - us.length) 0 := ⟨_, rfl⟩
            have HA : Hid (A = us ++ List.replicate (16 - us.length) 0 ∧ ∀ e ∈ A, e < 4294967296) := Lib.hid ⟨hA, fun e he => by
              rw [hA, List.mem_append] at he
              rcases he with he | he
              · exact HE.out.lt e he
              · have := List.eq_of_mem_replicate he; omega⟩
            have HA0 : Hid (∀ k (hk : k < us.length) (h : k < A.length), A[k] = us[k]) := Lib.hid (fun k hk h => by subst hA; exact List.getElem_append_left hk)
            have HA1 : Hid (∀ k (hk : us.length ≤ k) (h : k < A.length), A[k] = 0) := Lib.hid (fun k hk h => by
              subst hA
              rw [List.getElem_append_right hk, List.getElem_replicate])
            have hAl : A.length = 16 := by rw [hA]; simp; omega
            have HY : Hid (URaw y s r fb g p pm nf dir P0 most (.slice ub us.length uc) (fun _ => tab0) (layUp L (64 * dir + 64) (A.take 0)) lent c ∧ UpR y ub us (List.range w.heap.size) ∧ UpR y (some ⟨b, o, none⟩) us [s, g] ∧ Keep [s, g] w y) := Lib.hid (by
              subst hy
              have h1 := H1.out _ HO.out.2
              obtain ⟨tk, sh, hp, hb⟩ := h1.1.pool
              have hks : Keep [s] w1 (w1.setCell ⟨s, 579, none⟩ (.slice ub us.length uc)) := keepSet (Keep.refl _ _) (by simp) _ _
              have hupos : 0 < us.length := List.length_pos_iff.2 hne0
              have hown := HO.out.1
              rw [Nat.zero_add] at hown
              obtain ⟨gu, hgu, hcs⟩ := own_some hown hupos
              have hgb := (own_block hown (by rw [hgu]; rfl : (Value.slice ub us.length uc).ownBlock = some gu)).1
              have hws := HR.out.size
              refine ⟨⟨h1.1.sh.upper _, h1.1.ram.keep hks (by simp; omega) (by simp; omega) (by simp; omega), h1.1.len, ⟨tk, sh, hp.keep hks (by simp; omega) (by simp; omega), hb⟩, h1.1.nfb, h1.1.hd, h1.1.hp, h1.1.ne⟩, ⟨hle, HE.out.lt, .inr ⟨gu, 0, hgu, by simp; omega, fun k hk => ?_⟩⟩, h1.2.1.keep hks (by simp), (h1.2.2.weaken (by simp)).trans (hks.weaken (by simp))⟩
              have := hcs k (by omega)
              rw [List.nil_append, List.getElem?_map, List.getElem?_eq_getElem hk] at this
              rw [Nat.zero_add]
              exact hks.cell this (by simp; omega))
            clear hy hA HO H1 HAP HNW HE HE0 HR hc5 hf5 hrow
            go_wp2_with fail
            go_loopw [9, 10, 69] (fun av bv kv wr => ∃ (k : Nat) (za zb : Value), av = za ∧ bv = zb ∧ kv = .int .i64 k ∧ k ≤ 16 ∧ Hid (URaw wr s r fb g p pm nf dir P0 most (.slice ub us.length uc) (fun _ => tab0) (layUp L (64 * dir + 64) (A.take k)) lent c ∧ UpR wr ub us (List.range w.heap.size) ∧ UpR wr (some ⟨b, o, none⟩) us [s, g] ∧ Keep [s, g] w wr)) (fun _ _ kv _ => 16 - (intOf kv).toNat)
            case atStart => exact ⟨0, _, _, rfl, rfl, rfl, by omega, HY⟩
            case round =>
              clear HY
              obtain ⟨k, av, bv, rfl, rfl, rfl, hk1, HQ⟩ := hrel
              rename World => wq
              by_cases hk2 : k < 16
              · have hi : (k : Int) < 16 := by omega
                have hi0 : (0 : Int) ≤ (k : Int) := by omega
                obtain ⟨kk, hkk⟩ : ∃ z, z = 16 + k := ⟨_, rfl⟩
                obtain ⟨pp, hpp⟩ : ∃ z, z = 64 * dir + 4 * kk := ⟨_, rfl⟩
                have e1 : IntKind.i64.wrap (kk : Int) = (kk : Int) := IntWalk.i64_in _ (by omega)
                have e1' : (16 : Int) + (k : Int) = (kk : Int) := by omega
                have e2 : IntKind.u32.wrap (kk : Int) = (kk : Int) := IntWalk.u32_in _ (by omega)
                have e3 : IntKind.u32.wrap (4 * (kk : Int)) = 4 * (kk : Int) := IntWalk.u32_in _ (by omega)
                have e4 : IntKind.u32.wrap (64 * (dir : Int) + 4 * (kk : Int)) = (pp : Int) := by have := HQ.out.1.hd; have := HQ.out.1.nfb; rw [IntWalk.u32_in _ (by omega)]; omega
                have HPP := Lib.hid (And.intro hkk hpp)
                have hAk : k < A.length := by omega
                have HT : Hid (A.take (k + 1) = A.take k ++ [A[k]]) := Lib.hid (by rw [List.take_add_one, List.getElem?_eq_getElem hAk]; rfl)
                have hel : A[k] < 4294967296 := HA.out.2 _ (List.getElem_mem hAk)
                obtain ⟨q0, q1, q2, q3⟩ := HQ.out.1.sh.heads
                have hroot : Hid (∀ u : World, u.cell? ⟨s, 0, none⟩ = some (.pointer (some ⟨r, 0, none⟩)) → u.cell? ⟨s, 2, none⟩ = some (.int .i64 dir) → Calls Try.prog 16 #[.pointer (some ⟨s, 0, none⟩)] u fun e w' => e = .returned (.int .u32 (64 * (dir : Int))) ∧ u = w') := Lib.hid (fun u h1 h2 => by
                  have := sroot_at (dir := dir) h1 h2 (by have := HQ.out.1.hd; have := HQ.out.1.nfb; omega)
                  rw [show ((64 * dir : Nat) : Int) = 64 * (dir : Int) by omega] at this
                  exact this)
                have CW := Lib.hid (fun (u : World) (hu : Keep [] wq u) => setword_c (HQ.out.1.ram.keep0 hu) HQ.out.1.len HQ.out.1.nfb pp A[k] ⟨by have := HPP.out; omega, by have := HPP.out; have := HQ.out.1.hd; omega⟩ hel)
                by_cases hku : k < us.length
                · obtain ⟨b2, o2, hbo, hcu⟩ := HQ.out.2.2.1.cell (Keep.refl [] wq) (by simp) hku
                  cases hbo
                  have hA0 : A[k] = us[k] := HA0.out k hku hAk
                  rw [hA0] at CW HT
                  generalize us[k] = ek at hcu HT CW
                  have hi2 : (k : Int) < (us.length : Int) := by omega
                  clear hA0 hkk hpp hk1 hAk hel
                  go_wp2_with fail
                  refine wp_region_held_drew (S := fun x => x.cell? ⟨s, 0, none⟩ = some (.pointer (some ⟨r, 0, none⟩)) ∧ x.cell? ⟨s, 2, none⟩ = some (.int .i64 dir)) (by kernel_rfl) ⟨q0, q2⟩ (fun hHeld => ?_)
                  skip
                  refine wpAnyH_take (i := 0) (oi := { dst := some 80, op := Op.move (Operand.tmp 0), type := 27, pos := "shadow.go:160", after := #[], guard := none }) (v := ?_) rfl (by kernel_rfl) (by kernel_rfl) (by kernel_rfl) (fun _ _ _ h => h) (Or.inl ⟨by rfl, ?_⟩) (by assumption) ?_
                  rotate_left
                  focus (intro w hSw; (try dsimp only at hSw); go_simp <;> with_reducible rfl)
                  try simp only [Act.put, List.setIfInBounds_toArray, List.set_cons_zero, List.set_cons_succ]
                  refine wpAnyH_take (i := 1) (oi := { dst := some 81, op := Op.nilCheck (Operand.tmp 80), type := 0, pos := "shadow.go:160", after := #[{ on := 0, ground := Ground.data }], guard := none }) (v := ?_) rfl (by kernel_rfl) (by kernel_rfl) (by kernel_rfl) (fun _ _ _ h => h) (Or.inl ⟨by rfl, ?_⟩) (by assumption) ?_
                  rotate_left
                  focus (intro w hSw; (try dsimp only at hSw); go_simp <;> with_reducible rfl)
                  try simp only [Act.put, List.setIfInBounds_toArray, List.set_cons_zero, List.set_cons_succ]
                  refine wpAnyH_take (i := 2) (oi := { dst := some 82, op := Op.fieldAddr 112 (Operand.tmp 81) 0, type := 0, pos := "shadow.go:160", after := #[{ on := 1, ground := Ground.data }], guard := none }) (v := ?_) rfl (by kernel_rfl) (by kernel_rfl) (by kernel_rfl) (fun _ _ _ h => h) (Or.inl ⟨by rfl, ?_⟩) (by assumption) ?_
                  rotate_left
                  focus (intro w hSw; (try dsimp only at hSw); go_simp <;> with_reducible rfl)
                  try simp only [Act.put, List.setIfInBounds_toArray, List.set_cons_zero, List.set_cons_succ]
                  refine wpAnyH_take (i := 3) (oi := { dst := some 83, op := Op.load 26 (Operand.tmp 82), type := 26, pos := "shadow.go:160", after := #[{ on := 2, ground := Ground.data }], guard := none }) (v := ?_) rfl (by kernel_rfl) (by kernel_rfl) (by kernel_rfl) (fun _ _ _ h => h) (Or.inl ⟨by rfl, ?_⟩) (by assumption) ?_
                  rotate_left
                  focus (intro w hSw; (try dsimp only at hSw); go_simp <;> with_reducible rfl)
                  try simp only [Act.put, List.setIfInBounds_toArray, List.set_cons_zero, List.set_cons_succ]
                  refine wpAnyH_take (i := 4) (oi := { dst := some 84, op := Op.move (Operand.tmp 0), type := 27, pos := "shadow.go:160", after := #[], guard := none }) (v := ?_) rfl (by kernel_rfl) (by kernel_rfl) (by kernel_rfl) (fun _ _ _ h => h) (Or.inl ⟨by rfl, ?_⟩) (by assumption) ?_
                  rotate_left
                  focus (intro w hSw; (try dsimp only at hSw); go_simp <;> with_reducible rfl)
                  try simp only [Act.put, List.setIfInBounds_toArray, List.set_cons_zero, List.set_cons_succ]
                  refine wpAnyH_take (i := 6) (oi := { dst := some 86, op := Op.move (Operand.tmp 9), type := 3, pos := "shadow.go:160", after := #[], guard := none }) (v := ?_) rfl (by kernel_rfl) (by kernel_rfl) (by kernel_rfl) (fun _ _ _ h => h) (Or.inl ⟨by rfl, ?_⟩) (by assumption) ?_
                  rotate_left
                  focus (intro w hSw; (try dsimp only at hSw); go_simp <;> with_reducible rfl)
                  try simp only [Act.put, List.setIfInBounds_toArray, List.set_cons_zero, List.set_cons_succ]
                  refine wpAnyH_take (i := 7) (oi := { dst := some 87, op := Op.binOp BinOp.add 3 (Operand.const (Value.int IntKind.i64 16)) (Operand.tmp 86) 3, type := 3, pos := "shadow.go:160", after := #[{ on := 6, ground := Ground.data }], guard := none }) (v := ?_) rfl (by kernel_rfl) (by kernel_rfl) (by kernel_rfl) (fun _ _ _ h => h) (Or.inl ⟨by rfl, ?_⟩) (by assumption) ?_
                  rotate_left
                  focus (intro w hSw; (try dsimp only at hSw); go_simp <;> with_reducible rfl)
                  try simp only [Act.put, List.setIfInBounds_toArray, List.set_cons_zero, List.set_cons_succ]
                  refine wpAnyH_take (i := 8) (oi := { dst := some 88, op := Op.convert 3 22 (Operand.tmp 87), type := 22, pos := "shadow.go:160", after := #[{ on := 7, ground := Ground.data }], guard := none }) (v := ?_) rfl (by kernel_rfl) (by kernel_rfl) (by kernel_rfl) (fun _ _ _ h => h) (Or.inl ⟨by rfl, ?_⟩) (by assumption) ?_
                  rotate_left
                  focus (intro w hSw; (try dsimp only at hSw); go_simp <;> with_reducible rfl)
                  try simp only [Act.put, List.setIfInBounds_toArray, List.set_cons_zero, List.set_cons_succ]
                  refine wpAnyH_take (i := 9) (oi := { dst := some 89, op := Op.binOp BinOp.mul 22 (Operand.const (Value.int IntKind.u32 4)) (Operand.tmp 88) 22, type := 22, pos := "shadow.go:160", after := #[{ on := 8, ground := Ground.data }], guard := none }) (v := ?_) rfl (by kernel_rfl) (by kernel_rfl) (by kernel_rfl) (fun _ _ _ h => h) (Or.inl ⟨by rfl, ?_⟩) (by assumption) ?_
                  rotate_left
                  focus (intro w hSw; (try dsimp only at hSw); go_simp <;> with_reducible rfl)
                  try simp only [Act.put, List.setIfInBounds_toArray, List.set_cons_zero, List.set_cons_succ]
                  refine wpAnyH_take (i := 11) (oi := { dst := some 91, op := Op.move (Operand.tmp 10), type := 22, pos := "shadow.go:160", after := #[], guard := none }) (v := ?_) rfl (by kernel_rfl) (by kernel_rfl) (by kernel_rfl) (fun _ _ _ h => h) (Or.inl ⟨by rfl, ?_⟩) (by assumption) ?_
                  rotate_left
                  focus (intro w hSw; (try dsimp only at hSw); go_simp <;> with_reducible rfl)
                  try simp only [Act.put, List.setIfInBounds_toArray, List.set_cons_zero, List.set_cons_succ]
                  refine wpAnyH_ready (rs := [5]) (by kernel_rfl) (by simp) ?_
                  refine AllReadyH.cons (o := { dst := some 85, op := Op.call { callee := Callee.value (Operand.func 16), args := #[Operand.tmp 84], argTypes := #[27] }, type := 22, pos := "shadow.go:160", after := #[{ on := 4, ground := Ground.data }], guard := none }) rfl (fun K hK => ?_) AllReadyH.nil
                  go_simp
                  refine (hroot.out _ hHeld.1 hHeld.2).mono ?_
                  rintro e u1 ⟨rfl, rfl⟩
                  go_wp2_with fail
                  refine shut_grow (fun x => x.cell? ⟨s, 0, none⟩ = some (.pointer (some ⟨r, 0, none⟩)) ∧ x.cell? ⟨s, 2, none⟩ = some (.int .i64 dir)) hK (fun _ h => h) hHeld (fun hHeld => ?_)
                  clear hK K hroot
                  refine wpAnyH_take (i := 10) (oi := { dst := some 90, op := Op.binOp BinOp.add 22 (Operand.tmp 85) (Operand.tmp 89) 22, type := 22, pos := "shadow.go:160", after := #[{ on := 5, ground := Ground.data }, { on := 9, ground := Ground.data }], guard := none }) (v := ?_) rfl (by kernel_rfl) (by kernel_rfl) (by kernel_rfl) (fun _ _ _ h => h) (Or.inl ⟨by rfl, ?_⟩) (by assumption) ?_
                  rotate_left
                  focus (intro w hSw; (try dsimp only at hSw); go_simp <;> with_reducible rfl)
                  try simp only [Act.put, List.setIfInBounds_toArray, List.set_cons_zero, List.set_cons_succ]
                  refine wpAnyH_ready (rs := [12]) (by kernel_rfl) (by simp) ?_
                  refine AllReadyH.cons (o := { dst := some 92, op := Op.call { callee := Callee.value (Operand.func 82), args := #[Operand.tmp 83, Operand.tmp 90, Operand.tmp 91], argTypes := #[26, 22, 22] }, type := 4, pos := "shadow.go:160", after := #[{ on := 3, ground := Ground.data }, { on := 10, ground := Ground.data }, { on := 11, ground := Ground.data }, { on := 5, ground := Ground.chain }], guard := none }) rfl (fun K hK => ?_) AllReadyH.nil
                  go_simp
                  refine (CW.out _ (Keep.refl [] wq).drew).mono ?_
                  rintro e u2 ⟨rfl, hR2, hk2⟩
                  have HN : Hid (URaw u2 s r fb g p pm nf dir P0 most (.slice ub us.length uc) (fun _ => tab0) (layUp L (64 * dir + 64) (A.take (k + 1))) lent c ∧ UpR u2 ub us (List.range w.heap.size) ∧ UpR u2 (some ⟨b, o, none⟩) us [s, g] ∧ Keep [s, g] w u2) := Lib.hid (by
                    have hkq : Keep [g] wq u2 := ((Keep.refl [] wq).drew.weaken (by simp)).trans hk2
                    have hgl : g < w.heap.size := lt_of_heap HS.out.ram.data
                    obtain ⟨tk, sh, hp, hb⟩ := HQ.out.1.pool
                    refine ⟨⟨HQ.out.1.sh.keep hkq (by simp; omega), ?_, ?_, ⟨tk, sh, hp.keep hkq (by simp; omega) (by simp; omega), hb⟩, HQ.out.1.nfb, HQ.out.1.hd, HQ.out.1.hp, HQ.out.1.ne⟩, HQ.out.2.1.keep hkq (by simp; exact hgl), HQ.out.2.2.1.keep hkq (by simp), HQ.out.2.2.2.trans (hkq.weaken (by simp))⟩
                    · rw [HT.out, layUp_snoc, List.length_take, Nat.min_eq_left (by have := HA.out.1; omega), show 64 * dir + 64 + 4 * k = pp by have := HPP.out; omega]
                      exact hR2
                    · rw [HT.out, layUp_snoc, length_splice' _ _ _ (by rw [HQ.out.1.len, le4_len, List.length_take, Nat.min_eq_left (by omega)]; have := HPP.out; have := HQ.out.1.hd; omega), HQ.out.1.len])
                  obtain ⟨p0, p1, p2, p3⟩ := HN.out.1.sh.heads
                  clear hR2 hk2
                  go_wp2_with fail
                  refine shut_grow (fun x => x = u2) hK (fun _ h => by rw [h]; exact ⟨p0, p2⟩) rfl (fun hHeld => ?_)
                  clear hK K
                  skip
                  refine wpAnyH_done (by kernel_rfl) ?_ _
                  clear hHeld
                  go_wp2_with fail
                  go_roundw
                  case rel => exact ⟨k + 1, _, _, rfl, rfl, by go_num, by omega, HN⟩
                  case measure => simp [intOf]; omega
                · have hA0 : A[k] = 0 := HA1.out k (by omega) hAk
                  rw [hA0] at CW HT
                  have hi2 : ¬ ((k : Int) < (us.length : Int)) := by omega
                  clear hA0 hkk hpp hk1 hAk hel
                  go_wp2_with fail
                  refine wp_region_held_drew (S := fun x => x.cell? ⟨s, 0, none⟩ = some (.pointer (some ⟨r, 0, none⟩)) ∧ x.cell? ⟨s, 2, none⟩ = some (.int .i64 dir)) (by kernel_rfl) ⟨q0, q2⟩ (fun hHeld => ?_)
                  skip
                  refine wpAnyH_take (i := 0) (oi := { dst := some 80, op := Op.move (Operand.tmp 0), type := 27, pos := "shadow.go:160", after := #[], guard := none }) (v := ?_) rfl (by kernel_rfl) (by kernel_rfl) (by kernel_rfl) (fun _ _ _ h => h) (Or.inl ⟨by rfl, ?_⟩) (by assumption) ?_
                  rotate_left
                  focus (intro w hSw; (try dsimp only at hSw); go_simp <;> with_reducible rfl)
                  try simp only [Act.put, List.setIfInBounds_toArray, List.set_cons_zero, List.set_cons_succ]
                  refine wpAnyH_take (i := 1) (oi := { dst := some 81, op := Op.nilCheck (Operand.tmp 80), type := 0, pos := "shadow.go:160", after := #[{ on := 0, ground := Ground.data }], guard := none }) (v := ?_) rfl (by kernel_rfl) (by kernel_rfl) (by kernel_rfl) (fun _ _ _ h => h) (Or.inl ⟨by rfl, ?_⟩) (by assumption) ?_
                  rotate_left
                  focus (intro w hSw; (try dsimp only at hSw); go_simp <;> with_reducible rfl)
                  try simp only [Act.put, List.setIfInBounds_toArray, List.set_cons_zero, List.set_cons_succ]
                  refine wpAnyH_take (i := 2) (oi := { dst := some 82, op := Op.fieldAddr 112 (Operand.tmp 81) 0, type := 0, pos := "shadow.go:160", after := #[{ on := 1, ground := Ground.data }], guard := none }) (v := ?_) rfl (by kernel_rfl) (by kernel_rfl) (by kernel_rfl) (fun _ _ _ h => h) (Or.inl ⟨by rfl, ?_⟩) (by assumption) ?_
                  rotate_left
                  focus (intro w hSw; (try dsimp only at hSw); go_simp <;> with_reducible rfl)
                  try simp only [Act.put, List.setIfInBounds_toArray, List.set_cons_zero, List.set_cons_succ]
                  refine wpAnyH_take (i := 3) (oi := { dst := some 83, op := Op.load 26 (Operand.tmp 82), type := 26, pos := "shadow.go:160", after := #[{ on := 2, ground := Ground.data }], guard := none }) (v := ?_) rfl (by kernel_rfl) (by kernel_rfl) (by kernel_rfl) (fun _ _ _ h => h) (Or.inl ⟨by rfl, ?_⟩) (by assumption) ?_
                  rotate_left
                  focus (intro w hSw; (try dsimp only at hSw); go_simp <;> with_reducible rfl)
                  try simp only [Act.put, List.setIfInBounds_toArray, List.set_cons_zero, List.set_cons_succ]
                  refine wpAnyH_take (i := 4) (oi := { dst := some 84, op := Op.move (Operand.tmp 0), type := 27, pos := "shadow.go:160", after := #[], guard := none }) (v := ?_) rfl (by kernel_rfl) (by kernel_rfl) (by kernel_rfl) (fun _ _ _ h => h) (Or.inl ⟨by rfl, ?_⟩) (by assumption) ?_
                  rotate_left
                  focus (intro w hSw; (try dsimp only at hSw); go_simp <;> with_reducible rfl)
                  try simp only [Act.put, List.setIfInBounds_toArray, List.set_cons_zero, List.set_cons_succ]
                  refine wpAnyH_take (i := 6) (oi := { dst := some 86, op := Op.move (Operand.tmp 9), type := 3, pos := "shadow.go:160", after := #[], guard := none }) (v := ?_) rfl (by kernel_rfl) (by kernel_rfl) (by kernel_rfl) (fun _ _ _ h => h) (Or.inl ⟨by rfl, ?_⟩) (by assumption) ?_
                  rotate_left
                  focus (intro w hSw; (try dsimp only at hSw); go_simp <;> with_reducible rfl)
                  try simp only [Act.put, List.setIfInBounds_toArray, List.set_cons_zero, List.set_cons_succ]
                  refine wpAnyH_take (i := 7) (oi := { dst := some 87, op := Op.binOp BinOp.add 3 (Operand.const (Value.int IntKind.i64 16)) (Operand.tmp 86) 3, type := 3, pos := "shadow.go:160", after := #[{ on := 6, ground := Ground.data }], guard := none }) (v := ?_) rfl (by kernel_rfl) (by kernel_rfl) (by kernel_rfl) (fun _ _ _ h => h) (Or.inl ⟨by rfl, ?_⟩) (by assumption) ?_
                  rotate_left
                  focus (intro w hSw; (try dsimp only at hSw); go_simp <;> with_reducible rfl)
                  try simp only [Act.put, List.setIfInBounds_toArray, List.set_cons_zero, List.set_cons_succ]
                  refine wpAnyH_take (i := 8) (oi := { dst := some 88, op := Op.convert 3 22 (Operand.tmp 87), type := 22, pos := "shadow.go:160", after := #[{ on := 7, ground := Ground.data }], guard := none }) (v := ?_) rfl (by kernel_rfl) (by kernel_rfl) (by kernel_rfl) (fun _ _ _ h => h) (Or.inl ⟨by rfl, ?_⟩) (by assumption) ?_
                  rotate_left
                  focus (intro w hSw; (try dsimp only at hSw); go_simp <;> with_reducible rfl)
                  try simp only [Act.put, List.setIfInBounds_toArray, List.set_cons_zero, List.set_cons_succ]
                  refine wpAnyH_take (i := 9) (oi := { dst := some 89, op := Op.binOp BinOp.mul 22 (Operand.const (Value.int IntKind.u32 4)) (Operand.tmp 88) 22, type := 22, pos := "shadow.go:160", after := #[{ on := 8, ground := Ground.data }], guard := none }) (v := ?_) rfl (by kernel_rfl) (by kernel_rfl) (by kernel_rfl) (fun _ _ _ h => h) (Or.inl ⟨by rfl, ?_⟩) (by assumption) ?_
                  rotate_left
                  focus (intro w hSw; (try dsimp only at hSw); go_simp <;> with_reducible rfl)
                  try simp only [Act.put, List.setIfInBounds_toArray, List.set_cons_zero, List.set_cons_succ]
                  refine wpAnyH_take (i := 11) (oi := { dst := some 91, op := Op.move (Operand.tmp 10), type := 22, pos := "shadow.go:160", after := #[], guard := none }) (v := ?_) rfl (by kernel_rfl) (by kernel_rfl) (by kernel_rfl) (fun _ _ _ h => h) (Or.inl ⟨by rfl, ?_⟩) (by assumption) ?_
                  rotate_left
                  focus (intro w hSw; (try dsimp only at hSw); go_simp <;> with_reducible rfl)
                  try simp only [Act.put, List.setIfInBounds_toArray, List.set_cons_zero, List.set_cons_succ]
                  refine wpAnyH_ready (rs := [5]) (by kernel_rfl) (by simp) ?_
                  refine AllReadyH.cons (o := { dst := some 85, op := Op.call { callee := Callee.value (Operand.func 16), args := #[Operand.tmp 84], argTypes := #[27] }, type := 22, pos := "shadow.go:160", after := #[{ on := 4, ground := Ground.data }], guard := none }) rfl (fun K hK => ?_) AllReadyH.nil
                  go_simp
                  refine (hroot.out _ hHeld.1 hHeld.2).mono ?_
                  rintro e u1 ⟨rfl, rfl⟩
                  go_wp2_with fail
                  refine shut_grow (fun x => x.cell? ⟨s, 0, none⟩ = some (.pointer (some ⟨r, 0, none⟩)) ∧ x.cell? ⟨s, 2, none⟩ = some (.int .i64 dir)) hK (fun _ h => h) hHeld (fun hHeld => ?_)
                  clear hK K hroot
                  refine wpAnyH_take (i := 10) (oi := { dst := some 90, op := Op.binOp BinOp.add 22 (Operand.tmp 85) (Operand.tmp 89) 22, type := 22, pos := "shadow.go:160", after := #[{ on := 5, ground := Ground.data }, { on := 9, ground := Ground.data }], guard := none }) (v := ?_) rfl (by kernel_rfl) (by kernel_rfl) (by kernel_rfl) (fun _ _ _ h => h) (Or.inl ⟨by rfl, ?_⟩) (by assumption) ?_
                  rotate_left
                  focus (intro w hSw; (try dsimp only at hSw); go_simp <;> with_reducible rfl)
                  try simp only [Act.put, List.setIfInBounds_toArray, List.set_cons_zero, List.set_cons_succ]
                  refine wpAnyH_ready (rs := [12]) (by kernel_rfl) (by simp) ?_
                  refine AllReadyH.cons (o := { dst := some 92, op := Op.call { callee := Callee.value (Operand.func 82), args := #[Operand.tmp 83, Operand.tmp 90, Operand.tmp 91], argTypes := #[26, 22, 22] }, type := 4, pos := "shadow.go:160", after := #[{ on := 3, ground := Ground.data }, { on := 10, ground := Ground.data }, { on := 11, ground := Ground.data }, { on := 5, ground := Ground.chain }], guard := none }) rfl (fun K hK => ?_) AllReadyH.nil
                  go_simp
                  refine (CW.out _ (Keep.refl [] wq).drew).mono ?_
                  rintro e u2 ⟨rfl, hR2, hk2⟩
                  have HN : Hid (URaw u2 s r fb g p pm nf dir P0 most (.slice ub us.length uc) (fun _ => tab0) (layUp L (64 * dir + 64) (A.take (k + 1))) lent c ∧ UpR u2 ub us (List.range w.heap.size) ∧ UpR u2 (some ⟨b, o, none⟩) us [s, g] ∧ Keep [s, g] w u2) := Lib.hid (by
                    have hkq : Keep [g] wq u2 := ((Keep.refl [] wq).drew.weaken (by simp)).trans hk2
                    have hgl : g < w.heap.size := lt_of_heap HS.out.ram.data
                    obtain ⟨tk, sh, hp, hb⟩ := HQ.out.1.pool
                    refine ⟨⟨HQ.out.1.sh.keep hkq (by simp; omega), ?_, ?_, ⟨tk, sh, hp.keep hkq (by simp; omega) (by simp; omega), hb⟩, HQ.out.1.nfb, HQ.out.1.hd, HQ.out.1.hp, HQ.out.1.ne⟩, HQ.out.2.1.keep hkq (by simp; exact hgl), HQ.out.2.2.1.keep hkq (by simp), HQ.out.2.2.2.trans (hkq.weaken (by simp))⟩
                    · rw [HT.out, layUp_snoc, List.length_take, Nat.min_eq_left (by have := HA.out.1; omega), show 64 * dir + 64 + 4 * k = pp by have := HPP.out; omega]
                      exact hR2
                    · rw [HT.out, layUp_snoc, length_splice' _ _ _ (by rw [HQ.out.1.len, le4_len, List.length_take, Nat.min_eq_left (by omega)]; have := HPP.out; have := HQ.out.1.hd; omega), HQ.out.1.len])
                  obtain ⟨p0, p1, p2, p3⟩ := HN.out.1.sh.heads
                  clear hR2 hk2
                  go_wp2_with fail
                  refine shut_grow (fun x => x = u2) hK (fun _ h => by rw [h]; exact ⟨p0, p2⟩) rfl (fun hHeld => ?_)
                  clear hK K
                  skip
                  refine wpAnyH_done (by kernel_rfl) ?_ _
                  clear hHeld
                  go_wp2_with fail
                  go_roundw
                  case rel => exact ⟨k + 1, _, _, rfl, rfl, by go_num, by omega, HN⟩
                  case measure => simp [intOf]; omega
              · have hi : ¬ ((k : Int) < 16) := by omega
                obtain rfl : k = 16 := by omega
                have HF : Hid (UpperPost s r fb g p pm nf dir P0 most us L lent c w (.returned (.bool true)) wq) := Lib.hid (by
                  have h1 := HQ.out
                  rw [List.take_of_length_le (by omega), HA.out.1] at h1
                  exact ⟨rfl, h1.2.2.2, ub, uc, h1.1, h1.2.1⟩)
                go_wp2_with fail
                go_ret
                exact HF.out
end Go.Proofs.Ytpinoejckagjbaa
