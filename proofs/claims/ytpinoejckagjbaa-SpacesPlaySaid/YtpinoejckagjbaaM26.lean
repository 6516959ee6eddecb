/- Contracts of the functions that the law reaches, walked, and the plain laws on them (several texts in one). -/
import Derived.Outline
import Derived.Test.YtpinoejckagjbaaM17
import Derived.Test.YtpinoejckagjbaaM13

/- Has, Tables and the pages of a shadow with an upper half. -/
namespace Go.Proofs.Ytpinoejckagjbaa
open Go.RowKit Go.Mum Go.Shelf
set_option linter.unusedVariables false
set_option linter.unusedSimpArgs false
set_option maxRecDepth 100000

section
def hasB (T : Nat → Tab) (va : Nat) : Bool := decide (va / 1024 < 32) && (T (va / 1024)).th
def cntT (T : Nat → Tab) (k : Nat) : Nat := ((List.range k).filter fun n => (T n).th).length

set_option maxHeartbeats 2000000 in
theorem uhas_at {w : World} {s r p : Nat} {dir : Int} {uv : Value} {T : Nat → Tab} (h : ShU w s r p dir uv T) (va : Nat) (hv : va < 4294967296) :
    Calls Try.prog 26 #[.pointer (some ⟨s, 0, none⟩), .int .u32 va] w fun e w' => e = .returned (.bool (hasB T va)) ∧ w = w' := by
  obtain ⟨c0, c1, c2, c3⟩ := h.heads
  have C0 := Lib.hid (snone_at c0)
  obtain ⟨n, hn⟩ : ∃ n, n = va / 1024 := ⟨_, rfl⟩
  have n1 : (va : Int) / 1024 = (n : Int) := by omega
  have HH : Hid (hasB T va = (decide (n < 32) && (T n).th)) := Lib.hid (by rw [hn]; rfl)
  by_cases hn32 : n < 32
  · have ct := h.th hn32
    have hi : (n : Int) < 32 := by omega
    have hi0 : (0 : Int) ≤ (n : Int) := by omega
    have HF : Hid (hasB T va = (T n).th) := Lib.hid (by rw [HH.out]; simp [hn32])
    generalize (T n).th = b at ct HF
    clear h hn hn32
    go_enter Try.func26, Try.ntmps26
    go_wp2_with fail
    refine C0.out.mono ?_
    rintro e w' ⟨rfl, rfl⟩
    go_wp2_with fail
    go_ret
    exact ⟨by rw [HF.out]; rfl, rfl⟩
  · have hi : ¬ ((n : Int) < 32) := by omega
    have HF : Hid (hasB T va = false) := Lib.hid (by rw [HH.out]; simp [hn32])
    clear h hn hn32
    go_enter Try.func26, Try.ntmps26
    go_wp2_with fail
    refine C0.out.mono ?_
    rintro e w' ⟨rfl, rfl⟩
    go_wp2_with fail
    go_ret
    exact ⟨by rw [HF.out]; rfl, rfl⟩

theorem cnt_succ (T : Nat → Tab) (k : Nat) : cntT T (k + 1) = cntT T k + (if (T k).th = true then 1 else 0) := by
  unfold cntT
  rw [List.range_succ, List.filter_append, List.length_append]
  congr 1
  cases h : (T k).th <;> simp [h]

set_option maxHeartbeats 2000000 in
theorem utables_at {w : World} {s r p : Nat} {dir : Int} {uv : Value} {T : Nat → Tab} (h : ShU w s r p dir uv T) :
    Calls Try.prog 25 #[.pointer (some ⟨s, 0, none⟩)] w fun e w' => e = .returned (.int .i64 (cntT T 32 : Nat)) ∧ w = w' := by
  have H := Lib.hid h
  clear h
  go_enter Try.func25, Try.ntmps25
  go_wp2_with fail
  go_loopw [3, 5] (fun nv kv wr => ∃ k n : Nat, kv = .int .u32 k ∧ nv = .int .i64 n ∧ k ≤ 32 ∧ n ≤ k ∧ Hid (n = cntT T k) ∧ w = wr) (fun _ kv _ => 32 - (intOf kv).toNat)
  case atStart => exact ⟨0, 0, rfl, rfl, by omega, by omega, Lib.hid rfl, rfl⟩
  case round =>
    obtain ⟨k, n, rfl, rfl, hk1, hk2, HN, rfl⟩ := hrel
    by_cases hk : k < 32
    · have hi : (k : Int) < 32 := by omega
      have hcon := uhas_at H.out (k * 1024) (by omega)
      rw [show ((k * 1024 : Nat) : Int) = (k : Int) * 1024 by omega] at hcon
      have HC := Lib.hid hcon
      clear hcon
      cases ht : (T k).th
      all_goals
        have HB : Hid (hasB T (k * 1024) = (T k).th) := Lib.hid (by unfold hasB; rw [show k * 1024 / 1024 = k by omega]; simp [hk])
        rw [HB.out, ht] at HC
        have HS := Lib.hid (cnt_succ T k)
        rw [ht] at HS
        clear ht
        go_wp2_with fail
        refine HC.out.mono ?_
        rintro e w' ⟨rfl, rfl⟩
        go_wp2_with fail
        go_roundw
        case measure => simp [intOf]; omega
        case rel => first | exact ⟨k + 1, n, by go_num, rfl, by omega, by omega, Lib.hid (by rw [HS.out, ← HN.out]; simp), trivial⟩ | exact ⟨k + 1, n + 1, by go_num, by go_num, by omega, by omega, Lib.hid (by rw [HS.out, ← HN.out]; simp), trivial⟩
    · have hi : ¬ ((k : Int) < 32) := by omega
      obtain rfl : k = 32 := by omega
      go_wp2_with fail
      go_ret
      exact ⟨by rw [← HN.out]; rfl, rfl⟩

end

attribute [local go_sem] Oper.semAt_some

set_option maxHeartbeats 8000000 in
theorem ueach_at {w : World} {s r p : Nat} {dir : Int} {uv : Value} {T : Nat → Tab} (h : ShU w s r p dir uv T) (h32 : ∀ n, n < 32 → ∀ k, k < 16 → (T n).en k < 4294967296) : EachOK s (plV (tabE T) 512) w := by
  intro n Bs w1 hn hB hBs hcell l J Jx W hW hJ hJx hY h0
  have hkw : Go.Mum.Keep [] w W := below_keep (hB.trans (hW.mono hB.size)) (Nat.le_refl _)
  have hS : ShU W s r p dir uv T := h.keep hkw (by simp)
  have hc : W.cell? ⟨Bs, 0, none⟩ = some (.pointer (some ⟨s, 0, none⟩)) := (hW.cell (p := ⟨Bs, 0, none⟩) hBs).trans hcell
  have hr := hS.range
  have HJ : Hid (∀ (l : List Int) y z, J l y → Go.Mum.Keep [] y z → J l z) := Lib.hid (fun l y z h hz => hJ l y z none h (keep_grown hz) (by intro r hr; cases hr))
  have HW : Hid (w.heap.size ≤ W.heap.size) := Lib.hid (by have := hkw.size; exact this)
  have HY := Lib.hid hY
  have H0 := Lib.hid h0
  clear hY hJ hJx hcell hS h hkw hW hB h0
  refine callsIn_of_wp Try.func84 rfl trivial ?_ rfl
  simp only [Try.ntmps84, List.size_toArray, List.length_cons, List.length_nil, Nat.reduceAdd, Nat.reduceSub, Array.replicate_succ, Array.replicate_zero, List.push_toArray, List.append_toArray, List.nil_append, List.cons_append]
  gi_wp2_with (refine wpListIn_load_mid rfl 110 (.tmp 9) rfl s 3 (by rfl) (tabsL T) _ hr Try.underlying110 rfl (info_tabs' _) ?_)
  gi_loopw [11] (fun kv wr => ∃ k : Nat, kv = .int .i64 k ∧ k ≤ 32 ∧ Hid (J (plV (tabE T) (16 * k)) wr ∧ W.heap.size ≤ wr.heap.size)) (fun kv _ => 32 - (intOf kv).toNat)
  case atStart => exact ⟨0, rfl, by omega, Lib.hid ⟨H0.out, Nat.le_refl _⟩⟩
  case round =>
    obtain ⟨k, rfl, hk1, HR⟩ := hrel
    rename World => wo
    by_cases hk2 : k < 32
    · have hi : (k : Int) < 32 := by omega
      have hidx := index_tabs T hk2
      have h32k := Lib.hid (h32 k hk2)
      obtain ⟨t, ht⟩ : ∃ t, t = T k := ⟨_, rfl⟩
      rw [← ht] at hidx h32k
      have hrng : ∀ u : World, (u.alloc (.cells (tabL t).toArray 109)).rangeAt u.heap.size 2 (entL t) := fun u j v hj => by
        have hc : (u.alloc (.cells (tabL t).toArray 109)).heap[u.heap.size]? = some (.cells (tabL t).toArray 109 (0, 0)) := heap_alloc_same u _
        refine cell_of hc (2 + j) ?_
        rw [List.getElem?_toArray, Nat.add_comm 2 j]
        exact hj
      have hr1 := hrng wo
      have HA : Hid (∀ o, J (plV (tabE T) (16 * k)) (wo.alloc o) ∧ W.heap.size ≤ (wo.alloc o).heap.size) := Lib.hid (fun o => ⟨HJ.out _ _ _ HR.out.1 ((Go.Mum.Keep.refl [] wo).alloc o), by have := HR.out.2; simp; omega⟩)
      have HT := Lib.hid ht
      clear hrng hr ht
      by_cases hne : noEn t = true
      · have HN : Hid (plV (tabE T) (16 * (k + 1)) = plV (tabE T) (16 * k)) := Lib.hid (by
          rw [show 16 * (k + 1) = 16 * k + 16 by omega]
          exact plV_none (by rw [← HT.out]; exact hne))
        clear hk2
        gi_wp2_with (first
          | (refine wpListIn_store_new rfl 109 (.tmp 4) (.tmp 14) rfl wo _ (tabL t).toArray rfl (by rfl) (by rfl) (by rw [List.size_toArray, tabL_len]; exact info_table) (by simp [tabL_len]) (tabL_one _) ?_)
          | (refine wpListIn_load_mid rfl 107 (.tmp 15) rfl wo.heap.size 2 (by rfl) (entL t) _ hr1 Try.underlying107 rfl (by rw [entL_len]; exact info_ents) ?_)
          | (refine wpListIn_build rfl 107 #[] rfl (.agg (entL tab0).toArray) (by exact build_ents _) ?_)
          | (refine wpListIn_eql rfl 107 107 (.tmp 16) (.tmp 17) rfl (.agg (entL t).toArray) (.agg (entL tab0).toArray) (by rfl) (by rfl) true (by rw [← hne]; exact eql_ent t (.tmp 16) (.tmp 17) _) ?_))
        go_roundw
        case rel => exact ⟨k + 1, by go_num, by omega, Lib.hid ⟨by rw [HN.out]; exact (HA.out _).1, (HA.out _).2⟩⟩
        case measure => simp [intOf]; omega
      · have hne : noEn t = false := by simpa using hne
        gi_wp2_with (first
          | (refine wpListIn_store_new rfl 109 (.tmp 4) (.tmp 14) rfl wo _ (tabL t).toArray rfl (by rfl) (by rfl) (by rw [List.size_toArray, tabL_len]; exact info_table) (by simp [tabL_len]) (tabL_one _) ?_)
          | (refine wpListIn_load_mid rfl 107 (.tmp 15) rfl wo.heap.size 2 (by rfl) (entL t) _ hr1 Try.underlying107 rfl (by rw [entL_len]; exact info_ents) ?_)
          | (refine wpListIn_load_mid rfl 107 (.tmp 19) rfl wo.heap.size 2 (by rfl) (entL t) _ hr1 Try.underlying107 rfl (by rw [entL_len]; exact info_ents) ?_)
          | (refine wpListIn_build rfl 107 #[] rfl (.agg (entL tab0).toArray) (by exact build_ents _) ?_)
          | (refine wpListIn_eql rfl 107 107 (.tmp 16) (.tmp 17) rfl (.agg (entL t).toArray) (.agg (entL tab0).toArray) (by rfl) (by rfl) false (by rw [← hne]; exact eql_ent t (.tmp 16) (.tmp 17) _) ?_))
        obtain ⟨w2, hw2⟩ : ∃ w2, w2 = wo.alloc (.cells (tabL t).toArray 109) := ⟨_, rfl⟩
        rw [← hw2]
        have HA2 : Hid (J (plV (tabE T) (16 * k)) w2 ∧ W.heap.size ≤ w2.heap.size) := Lib.hid (by rw [hw2]; exact HA.out _)
        clear hr1 hw2 hne hidx
        gi_loopw [21] (fun jv wr => ∃ j : Nat, jv = .int .i64 j ∧ j ≤ 16 ∧ Hid (J (plV (tabE T) (16 * k + j)) wr ∧ W.heap.size ≤ wr.heap.size)) (fun jv _ => 16 - (intOf jv).toNat)
        case atStart => exact ⟨0, rfl, by omega, HA2⟩
        case round =>
          clear HA2
          obtain ⟨j, rfl, hj1, HQ⟩ := hrel
          rename World => wq
          by_cases hj : j < 16
          · have hji : (j : Int) < 16 := by omega
            have hix := index_ent t hj
            have hen : tabE T (16 * k + j) = t.en j := by
              unfold tabE; rw [show (16 * k + j) / 16 = k by omega, show (16 * k + j) % 16 = j by omega, HT.out]
            obtain ⟨e, he⟩ : ∃ e, e = t.en j := ⟨_, rfl⟩
            rw [← he] at hix hen
            have he32 : e < 4294967296 := by rw [he]; exact h32k.out j hj
            clear he
            by_cases hz : e = 0
            · have HN : Hid (plV (tabE T) (16 * k + (j + 1)) = plV (tabE T) (16 * k + j)) := Lib.hid (by
                rw [show 16 * k + (j + 1) = 16 * k + j + 1 by omega, plV_succ, if_pos (by omega), List.append_nil])
              rw [hz] at hix
              replace hix : ∀ w, (Instr.index 107 (.agg (entL t).toArray) (.int .i64 j)).run Try.prog w = .ok (.int .u32 0) w := hix
              clear hen he32 hz
              gi_wp2
              refine ⟨fun _ h => (by cases h), ?_⟩
              gi_wp2
              go_roundw
              case rel => exact ⟨j + 1, by go_num, by omega, Lib.hid ⟨by rw [HN.out]; exact HQ.out.1, HQ.out.2⟩⟩
              case measure => simp [intOf]; omega
            · have HN : Hid (plV (tabE T) (16 * k + (j + 1)) = plV (tabE T) (16 * k + j) ++ [((64 * (16 * k + j) : Nat) : Int)]) := Lib.hid (by
                rw [show 16 * k + (j + 1) = 16 * k + j + 1 by omega, plV_succ, if_neg (by omega)])
              have hlen : (plV (tabE T) (16 * k + j)).length < 512 := by have := plV_len (tabE T) (16 * k + j); omega
              obtain ⟨v, hv⟩ : ∃ v, v = 64 * (16 * k + j) := ⟨_, rfl⟩
              rw [← hv] at HN
              obtain ⟨fn, tmps, assign, body, hy, hR⟩ := HY.out _ ((v : Nat) : Int) wq HQ.out.1 hlen
              have hez : ((e : Int) != 0) = true := by rw [bne_iff_ne]; omega
              have hor : bits .or .u32 ((k : Int) * 1024) ((j : Int) * 64) = (v : Int) := by
                have h := or_u32 (k * 2 ^ 10) (j * 64) (by omega) (by omega)
                rw [or_add (by omega)] at h
                have e1 : ((k * 2 ^ 10 : Nat) : Int) = (k : Int) * 1024 := by omega
                have e2 : ((j * 64 : Nat) : Int) = (j : Int) * 64 := by omega
                rw [e1, e2] at h
                rw [h]
                omega
              have HQ2 := HQ.out.2
              have hpre : Hid (plV (tabE T) (16 * k + (j + 1)) <+: plV (tabE T) 512) := Lib.hid (by
                have hp : ∀ d m, plV (tabE T) m <+: plV (tabE T) (m + d) := by
                  intro d m
                  induction d with
                  | zero => exact List.prefix_refl _
                  | succ d ih => rw [← Nat.add_assoc, plV_succ]; exact ih.trans (List.prefix_append _ _)
                have := hp (512 - (16 * k + (j + 1))) (16 * k + (j + 1))
                rwa [show 16 * k + (j + 1) + (512 - (16 * k + (j + 1))) = 512 by omega] at this)
              clear hen hlen hv
              gi_wp2
              refine hR.mono ?_
              rintro e W3 (⟨rfl, hJ3, hk3⟩ | ⟨rfl, hJx3⟩)
              · have HD : Hid (J (plV (tabE T) (16 * k + (j + 1))) W3 ∧ W.heap.size ≤ W3.heap.size) := Lib.hid ⟨by rw [HN.out]; exact hJ3, Nat.le_trans HQ2 hk3.size⟩
                clear hJ3 hk3 HQ2
                gi_wp2
                go_roundw
                case rel => exact ⟨j + 1, by go_num, by omega, HD⟩
                case measure => simp [intOf]; omega
              · have HD : Hid (∃ pre, pre <+: plV (tabE T) 512 ∧ Jx pre W3) := Lib.hid ⟨_, hpre.out, by rw [HN.out]; exact hJx3⟩
                clear hJx3 HQ2
                gi_wp2
                refine bodyPost_ret (results_none rfl _ _ _) rfl ?_
                exact ⟨⟨_, rfl⟩, .inr HD.out⟩
          · have hji : ¬ ((j : Int) < 16) := by omega
            obtain rfl : j = 16 := by omega
            gi_wp2
            go_roundw
            case rel => exact ⟨k + 1, by go_num, by omega, Lib.hid ⟨by rw [show 16 * (k + 1) = 16 * k + 16 by omega]; exact HQ.out.1, HQ.out.2⟩⟩
            case measure => simp [intOf]; omega
    · have hi : ¬ ((k : Int) < 32) := by omega
      obtain rfl : k = 32 := by omega
      gi_wp2
      go_end0
      exact ⟨⟨_, rfl⟩, .inl HR.out.1⟩
end Go.Proofs.Ytpinoejckagjbaa
