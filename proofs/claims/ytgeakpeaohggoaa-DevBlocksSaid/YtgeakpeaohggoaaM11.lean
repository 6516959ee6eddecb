/- Contracts of the functions that the law reaches, walked, and the plain laws on them (several texts in one). -/
import Derived.Test.YtgeakpeaohggoaaM10

/- Devices: lists that are cloned; a disk's bytes. -/
namespace Go.Proofs.Ytgeakpeaohggoaa
open Go.RowKit Go.Mum
set_option linter.unusedVariables false
set_option linter.unusedSimpArgs false
set_option maxRecDepth 100000

theorem _root_.Go.Mum.Buf.rd {w : World} {e : TypeId} {sz : Nat} {a : Option Addr} {n c : Nat} {xs : List Value} (h : Buf w e sz (.slice a n c) n xs) (h1 : ∀ u ∈ xs, u.oneCell' = true) : Rd w sz a n c xs := by
  obtain ⟨hl, a', c', e1, h2, h3, h4⟩ := h
  injection e1 with e1 _ e3
  subst e1 e3
  refine ⟨hl, h1, ⟨h2, h3⟩, fun ha => ?_, ?_⟩
  · rcases h4 with h4 | ⟨g, off, cur, rfl, _⟩
    · omega
    · cases ha
  · rcases h4 with h4 | ⟨g, off, cur, rfl, hg, h5, h6⟩
    · exact .inl (by omega)
    · exact .inr ⟨g, off, rfl, fun j u hu => cell_of hg _ (h6 j u hu)⟩

theorem u8s_one (D : List Int) : ∀ u ∈ u8s D, u.oneCell' = true := fun u hu => by obtain ⟨z, _, rfl⟩ := List.mem_map.1 hu; rfl

theorem Rd.row {w : World} {a : Option Addr} {n c : Nat} {D : List Int} (h : Rd w 1 a n c (u8s D)) (hb : IsBytes D) (hc : a = none → c = 0) : n = D.length ∧ Row w a c D := by
  have hn : n = D.length := by have := h.len; rw [u8s_length] at this; omega
  refine ⟨hn, hb, by rw [← hn]; exact h.cap, ?_⟩
  rcases h.at' with h0 | ⟨b, off, rfl, hcell⟩
  · have : D = [] := List.eq_nil_of_length_eq_zero (by omega)
    cases a with
    | none => exact .inl ⟨rfl, this, hc rfl⟩
    | some a => exact .inr (.inl ⟨this, _, rfl⟩)
  · refine .inr (.inr ⟨b, off, rfl, fun i hi => hcell i _ (by simp [u8s, List.getElem?_eq_getElem hi, List.getD])⟩)

theorem _root_.Go.Mum.Row.rd {w : World} {a : Option Addr} {c : Nat} {D : List Int} (h : Row w a c D) : Rd w 1 a D.length c (u8s D) := by
  refine ⟨by rw [u8s_length]; omega, u8s_one _, h.cap, fun ha => ?_, ?_⟩
  · rcases h.at' with ⟨_, rfl, _⟩ | ⟨rfl, _⟩ | ⟨b, off, rfl, _⟩
    · rfl
    · rfl
    · cases ha
  · rcases h.at' with ⟨_, rfl, _⟩ | ⟨rfl, _⟩ | ⟨b, off, rfl, hc⟩
    · exact .inl rfl
    · exact .inl rfl
    · refine .inr ⟨b, off, rfl, fun j u hu => ?_⟩
      have hj : j < D.length := by
        rcases Nat.lt_or_ge j D.length with h | h
        · exact h
        · rw [List.getElem?_eq_none (by simpa [u8s] using h)] at hu; cases hu
      rw [hc j hj]
      simp only [u8s, List.getElem?_map, List.getElem?_eq_getElem hj, Option.map_some, Option.some.injEq] at hu
      rw [← hu]
      simp [List.getD, List.getElem?_eq_getElem hj]

theorem _root_.Go.Mum.Buf.row {w : World} {e : TypeId} {a : Option Addr} {n c : Nat} {L : List Int} (h : Buf w e 1 (.slice a n c) n (u8s L)) (hb : IsBytes L) : n = L.length ∧ Row w a c L := by
  refine Rd.row (Buf.rd h (u8s_one _)) hb (fun ha => ?_)
  obtain ⟨hl, a', c', e1, h1, h2, h3⟩ := h
  injection e1 with e1 _ e3
  subst e1 e3
  rcases h3 with h3 | ⟨g, off, cur, rfl, hg, h4, h5⟩
  · exact h3
  · cases ha

set_option maxHeartbeats 1000000 in
theorem cloneB_at {w : World} {a : Option Addr} {n c : Nat} {D : List Int} (h : Rd w 1 a n c (u8s D)) (hn : n ≤ 1073741824) :
    Calls Try.prog 46 #[.slice a n c] w fun e w' => ∃ v, e = .returned v ∧ Buf w' 5 1 v n (u8s D) ∧ Keep [] w w' ∧ ∀ k ∈ blk v, w.heap.size ≤ k := by
  obtain ⟨i0, hif, hz0, hz1, hz2⟩ := info_parts info_u8b
  have q23 : ∀ (w : World) (a : Option Addr) (n c n' c' : Nat), (binOp .eql 22 (.slice a n c) (.slice none n' c')).run Try.prog w = .ok (.bool a.isNone) w := fun w a n c n' c' => Lib.run_eql_slice_nil w _ _ a n c n' c' Try.underlying22
  cases a with
  | none =>
    obtain rfl := h.none' rfl
    have hL : u8s D = [] := List.eq_nil_of_length_eq_zero (by simpa using h.len)
    rw [hL]
    clear hL
    go_enter Try.func46, Try.ntmps46
    go_wp2
    go_ret
    exact ⟨_, rfl, Buf.nil _ _ _, Keep.refl _ _, by simp [blk]⟩
  | some a =>
    have H := Lib.hid h
    clear h
    go_enter Try.func46, Try.ntmps46
    go_wp2_with (at_builtin; go_loud (refine wpList_append_buf rfl _ _ 22 rfl 5 1 i0 (.int .u8 0) 1 Try.underlying22 hif hz0 hz1 hz2 (.slice (some ⟨w.heap.size, 0, none⟩) 0 0) 0 [] rfl (Buf.empty _ _ _ _) _ n (u8s D) rfl ((H.out.keep0 ((Keep.refl [] w).alloc _)).src Try.underlying22) rfl (by unfold maxLen; omega) (by omega) ?_); intro v' w1 hb1 hk1 hs1; have H1 := Lib.hid (And.intro hb1 (And.intro hk1 hs1)); clear hb1 hk1 hs1)
    go_ret
    obtain ⟨h1, h2, h3⟩ := H1.out
    refine ⟨_, rfl, by simpa using h1, ((Keep.refl [] w).alloc _).trans (by simpa [blk] using h2), fun k hk => ?_⟩
    rcases h3 k hk with h4 | h4
    · simp [blk] at h4
    · simp at h4; omega

set_option maxHeartbeats 1000000 in
theorem cloneK_at {w : World} {a : Option Addr} {n c : Nat} {D : List Int} (h : Rd w 64 a n c (u8s D)) (hn : n ≤ 1073741824) :
    Calls Try.prog 57 #[.slice a n c] w fun e w' => ∃ v, e = .returned v ∧ Buf w' 113 64 v n (u8s D) ∧ Keep [] w w' ∧ ∀ k ∈ blk v, w.heap.size ≤ k := by
  obtain ⟨i0, hif, hz0, hz1, hz2⟩ := info_parts info_block3
  have q23 : ∀ (w : World) (a : Option Addr) (n c n' c' : Nat), (binOp .eql 68 (.slice a n c) (.slice none n' c')).run Try.prog w = .ok (.bool a.isNone) w := fun w a n c n' c' => Lib.run_eql_slice_nil w _ _ a n c n' c' Try.underlying68
  cases a with
  | none =>
    obtain rfl := h.none' rfl
    have hL : u8s D = [] := List.eq_nil_of_length_eq_zero (by simpa using h.len)
    rw [hL]
    clear hL
    go_enter Try.func57, Try.ntmps57
    go_wp2
    go_ret
    exact ⟨_, rfl, Buf.nil _ _ _, Keep.refl _ _, by simp [blk]⟩
  | some a =>
    have H := Lib.hid h
    clear h
    go_enter Try.func57, Try.ntmps57
    go_wp2_with (at_builtin; go_loud (refine wpList_append_buf rfl _ _ 68 rfl 113 64 i0 (.agg (Array.replicate 64 (.int .u8 0))) 64 Try.underlying68 hif hz0 hz1 hz2 (.slice (some ⟨w.heap.size, 0, none⟩) 0 0) 0 [] rfl (Buf.empty _ _ _ _) _ n (u8s D) rfl ((H.out.keep0 ((Keep.refl [] w).alloc _)).src Try.underlying68) rfl (by unfold maxLen; omega) (by omega) ?_); intro v' w1 hb1 hk1 hs1; have H1 := Lib.hid (And.intro hb1 (And.intro hk1 hs1)); clear hb1 hk1 hs1)
    go_ret
    obtain ⟨h1, h2, h3⟩ := H1.out
    refine ⟨_, rfl, by simpa using h1, ((Keep.refl [] w).alloc _).trans (by simpa [blk] using h2), fun k hk => ?_⟩
    rcases h3 k hk with h4 | h4
    · simp [blk] at h4
    · simp at h4; omega

theorem size_setCells {b : Nat} : ∀ (vs : List Value) (o : Nat) (w : World), (w.setCells b o vs).heap.size = w.heap.size
  | [], _, _ => rfl
  | v :: vs, o, w => (size_setCells vs (o + 1) (w.setCell ⟨b, o, none⟩ v)).trans (by simp [World.setCell])

/-- A variable that is made and stored whole. -/
theorem fresh_there {w : World} {cs0 : Array Value} {t : TypeId} {n : Nat} (h : n = cs0.size) : (w.alloc (.cells cs0 t)).there w.heap.size 0 n := by
  intro j hj
  have hh : (w.alloc (.cells cs0 t)).heap[w.heap.size]? = some (.cells cs0 t (0, 0)) := heap_alloc_at _ rfl
  refine ⟨?_, frozen_of hh _⟩
  rw [cell_of hh (0 + j) (v := cs0[0 + j]'(by omega)) (by simp [show j < cs0.size by omega])]; rfl

theorem fresh_store {w : World} {cs0 : Array Value} {t : TypeId} {xs : List Value} (h : xs.length = cs0.size) :
    Keep [] w ((w.alloc (.cells cs0 t)).setCells w.heap.size 0 xs) ∧ ((w.alloc (.cells cs0 t)).setCells w.heap.size 0 xs).heap.size = w.heap.size + 1 ∧ ∀ j u, xs[j]? = some u → ((w.alloc (.cells cs0 t)).setCells w.heap.size 0 xs).cell? ⟨w.heap.size, j, none⟩ = some u := by
  have hh : (w.alloc (.cells cs0 t)).heap[w.heap.size]? = some (.cells cs0 t (0, 0)) := heap_alloc_at _ rfl
  obtain ⟨cs', g1, g2, g3, g4, g5⟩ := heap_setCells_same xs 0 _ cs0 hh (by omega)
  have k1 : Keep [w.heap.size] (w.alloc (.cells cs0 t)) ((w.alloc (.cells cs0 t)).setCells w.heap.size 0 xs) := keep_setCells (by simp) _ _ _ (Keep.refl _ _)
  refine ⟨((Keep.refl [] w).alloc _).then k1 (fun j hj hlt => by simp at hj; omega), ?_, fun j u hu => cell_of g1 j (by have := g4 j u hu; rwa [Nat.zero_add] at this)⟩
  rw [size_setCells]; simp

set_option maxHeartbeats 4000000 in
/-- The bytes of a disk. -/
theorem all_at {w : World} {b N : Nat} {bl : Value} {D : List Int} (hc : w.cell? ⟨b, 3, none⟩ = some bl) (hb : Buf w 113 64 bl N (u8s D)) (hD : IsBytes D) (hN : N ≤ 32) :
    Calls Try.prog 47 #[.pointer (some ⟨b, 3, none⟩)] w fun e w' => ∃ v, e = .returned v ∧ Buf w' 5 1 v D.length (u8s D) ∧ Keep [] w w' ∧ ∀ k ∈ blk v, w.heap.size ≤ k := by
  obtain ⟨i0, hif, hz0, hz1, hz2⟩ := info_parts info_u8b
  have hl : D.length = N * 64 := by have := hb.len; rwa [u8s_length] at this
  obtain ⟨ba, bc, rfl, hc1, hc2⟩ := hb.shape
  have HB := Lib.hid hb
  have HL := Lib.hid hl
  have hca : ∀ o, (w.alloc o).cell? ⟨b, 3, none⟩ = some (.slice ba N bc) := fun o => ((Keep.refl [] w).alloc o).cell hc (by simp)
  clear hb hl
  go_enter Try.func47, Try.ntmps47
  go_wp2_with fail
  obtain ⟨b0, hb0⟩ : ∃ b, b = w.heap.size := ⟨_, rfl⟩
  rw [← hb0]
  generalize hy : World.alloc w _ = y2
  have HY : Hid (Keep [] w y2) := Lib.hid (by subst hy; exact (Keep.refl [] w).alloc _)
  have HW0 := Lib.hid hb0
  clear hy hb0
  go_loopw [3, 5, 12, 13, 14, 15, 16, 17, 18, 19] (fun i3 _ i12 _ _ _ _ _ _ _ wr => ∃ k : Nat, i12 = .int .i64 k ∧ k ≤ N ∧ Hid (Buf wr 5 1 i3 (k * 64) (u8s (D.take (k * 64))) ∧ (∀ j ∈ blk i3, b0 ≤ j) ∧ Keep [] w wr)) (fun _ _ i12 _ _ _ _ _ _ _ _ => N - (intOf i12).toNat)
  case atStart => exact ⟨0, rfl, by omega, Lib.hid ⟨by simpa [u8s] using Buf.empty _ _ _ _, by simp [blk], HY.out⟩⟩
  case round =>
    clear HY
    obtain ⟨k, rfl, hk, HI⟩ := hrel
    obtain ⟨va, vc, hv, hvc1, hvc2⟩ := HI.out.1.shape
    subst hv
    by_cases hkN : k < N
    · have t1 : decide ((k : Int) < (N : Int)) = true := decide_eq_true (by omega)
      obtain ⟨g, off, c, hv, _, hcell⟩ := HB.out.cells (by omega)
      injection hv with hv1 hv2 hv3
      subst hv1 hv3
      have hDk : D.take (k * 64) ++ (D.drop (k * 64)).take 64 = D.take ((k + 1) * 64) := by
        rw [show (k + 1) * 64 = k * 64 + 64 by omega, List.take_add]
      have hl64 : (u8s ((D.drop (k * 64)).take 64)).length = 64 := by rw [u8s_length, List.length_take, List.length_drop]; have := HL.out; omega
      have hrange : wr.rangeAt g (off + k * 64) (u8s ((D.drop (k * 64)).take 64)) := by
        intro j u hu
        have hj : j < 64 := by
          rcases Nat.lt_or_ge j 64 with h | h
          · exact h
          · rw [List.getElem?_eq_none (by rw [hl64]; exact h)] at hu; cases hu
        refine HI.out.2.2.cell ?_ (by simp)
        rw [Nat.add_assoc]
        refine hcell _ _ ?_
        simp only [u8s, List.getElem?_map] at hu ⊢
        rw [List.getElem?_take_of_lt hj, List.getElem?_drop] at hu
        exact hu
      generalize hBB : (D.drop (k * 64)).take 64 = B at hrange hl64 hDk
      have HG := Lib.hid (And.intro hl64 (And.intro hDk hrange))
      clear hBB hcell hl64 hDk hrange
      go_wp2_with (first
        | (refine wpList_load_mid rfl 113 (.tmp 14) rfl g (off + k * 64) (by rfl) (u8s B) _ HG.out.2.2 Try.underlying113 rfl (by rw [HG.out.1]; exact info_block) ?_)
        | (refine wpList_store_mid rfl 113 (.tmp 5) (.tmp 15) (by rfl) wr.heap.size 0 (u8s B).toArray (by rfl) (by rfl) (fresh_there (by simp [HG.out.1])) (by simp only [List.size_toArray, HG.out.1]; exact info_block) (all_oneCell_toArray (u8s_one _)) ?_; generalize hws : World.setCells _ _ _ _ = ws; have FS : Hid (Keep [] wr ws ∧ ws.heap.size = wr.heap.size + 1 ∧ ∀ j u, (u8s B)[j]? = some u → ws.cell? ⟨wr.heap.size, j, none⟩ = some u) := Lib.hid (by rw [← hws]; exact fresh_store (by simp [HG.out.1])); have B1 := Lib.hid (HI.out.1.keep0 FS.out.1); clear hws)
        | (at_builtin; go_loud (refine wpList_append_buf rfl _ _ 22 rfl 5 1 i0 (.int .u8 0) 1 Try.underlying22 hif hz0 hz1 hz2 (.slice va (k * 64) vc) _ _ rfl B1.out _ 64 (u8s B) rfl (Src.ofSlice _ Try.underlying22 ⟨wr.heap.size, 0, none⟩ 64 64 (u8s B) (by rw [HG.out.1]) (fun j u hu => by rw [Addr.add_lit, Nat.zero_add]; exact FS.out.2.2 j u hu) (u8s_one _)) rfl (by unfold maxLen; omega) (by omega) ?_); intro v' w6 hb1 hk1 hs1; have H6 := Lib.hid (And.intro hb1 (And.intro hk1 hs1)); clear hb1 hk1 hs1))
      go_roundw
      case rel =>
        refine ⟨k + 1, by go_num, by omega, Lib.hid ?_⟩
        obtain ⟨hb1, hk1, hs1⟩ := H6.out
        refine ⟨?_, fun j hj => ?_, ?_⟩
        · rw [← HG.out.2.1, u8s_append, show (k + 1) * 64 = k * 64 + 64 by omega]
          exact hb1
        · rcases hs1 j hj with h | h
          · exact HI.out.2.1 j h
          · have := HI.out.2.2.size; have := FS.out.1.size; have := HW0.out; omega
        · exact (HI.out.2.2.trans FS.out.1).then hk1 (fun j hj hlt => by have := HI.out.2.1 j hj; have := HW0.out; omega)
      case measure => simp [intOf]; omega
    · obtain rfl : N = k := by omega
      have t1 : decide ((N : Int) < (N : Int)) = false := decide_eq_false (by omega)
      have hl := HL.out
      have HF := Lib.hid (by have := HI.out.1; rw [List.take_of_length_le (by omega)] at this; rw [hl]; exact this : Buf wr 5 1 (.slice va (N * 64) vc) D.length (u8s D))
      clear hl
      go_wp2_with fail
      go_ret
      exact ⟨_, rfl, HF.out, HI.out.2.2, fun j hj => by have := HI.out.2.1 j hj; have := HW0.out; omega⟩

end Go.Proofs.Ytgeakpeaohggoaa

/- Devices: what went out; the disk's bytes; a copy. -/
namespace Go.Proofs.Ytgeakpeaohggoaa
open Go.RowKit Go.Mum
set_option linter.unusedVariables false
set_option linter.unusedSimpArgs false
set_option maxRecDepth 100000

theorem DvIn.keep0 {w x : World} {b : Nat} {s : DS} {q bl sc ou : Value} (h : DvIn w b s q bl sc ou) (hk : Keep [] w x) : DvIn x b s q bl sc ou := h.keep hk (by simp)

set_option maxHeartbeats 1000000 in
theorem doutput_at {w : World} {b : Nat} {F : List Nat} {s : DS} (h : DvAt w b F s) :
    Calls Try.prog 28 #[.pointer (some ⟨b, 0, none⟩)] w fun e w' => ∃ v, e = .returned v ∧ Buf w' 5 1 v s.out.length (u8s s.out) ∧ Keep [] w w' ∧ ∀ k ∈ blk v, w.heap.size ≤ k := by
  obtain ⟨ok, q, bl, sc, ou, hi, rfl⟩ := h
  have C0 := Lib.hid (dnone_no hi.made)
  obtain ⟨oa, oc, rfl, _, _⟩ := hi.hou.shape
  have e12 : w.cell? ⟨b, 12, none⟩ = some (.slice oa s.out.length oc) := cell_of hi.cs 12 rfl
  have C1 := Lib.hid (cloneB_at (hi.hou.rd (u8s_one _)) ok.out.2)
  clear hi ok
  go_enter Try.func28, Try.ntmps28
  go_wp2_with (first | (go_at_call 37; refine C0.out.mono ?_; rintro e w' ⟨rfl, rfl⟩) | (go_at_call 46; refine C1.out.mono ?_; rintro e w1 ⟨v, rfl, hb⟩; have HB := Lib.hid hb; clear hb))
  go_ret
  exact ⟨_, rfl, HB.out⟩

set_option maxHeartbeats 1000000 in
theorem ddisk_at {w : World} {b : Nat} {F : List Nat} {s : DS} (h : DvAt w b F s) :
    Calls Try.prog 25 #[.pointer (some ⟨b, 0, none⟩)] w fun e w' => ∃ v, e = .returned v ∧ Buf w' 5 1 v s.disk.length (u8s s.disk) ∧ Keep [] w w' ∧ ∀ k ∈ blk v, w.heap.size ≤ k := by
  obtain ⟨ok, q, bl, sc, ou, hi, rfl⟩ := h
  have C0 := Lib.hid (dnone_no hi.made)
  have C1 := Lib.hid (all_at (b := b) (cell_of hi.cs 3 rfl) hi.hbl ok.disk.1 (by have := ok.disk.2.1; omega))
  clear hi ok
  go_enter Try.func25, Try.ntmps25
  go_wp2_with (first | (go_at_call 37; refine C0.out.mono ?_; rintro e w' ⟨rfl, rfl⟩) | (go_at_call 47; refine C1.out.mono ?_; rintro e w1 ⟨v, rfl, hb⟩; have HB := Lib.hid hb; clear hb))
  go_ret
  exact ⟨_, rfl, HB.out⟩

set_option maxHeartbeats 2000000 in
theorem dcopy_at {w : World} {b : Nat} {F : List Nat} {s : DS} (h : DvAt w b F s) :
    Calls Try.prog 29 #[.pointer (some ⟨b, 0, none⟩)] w fun e w' => ∃ c F', e = .returned (.pointer (some ⟨c, 0, none⟩)) ∧ DvAt w' c F' s ∧ Keep [] w w' ∧ ∀ k ∈ F', w.heap.size ≤ k := by
  obtain ⟨ok, q, bl, sc, ou, hi, rfl⟩ := h
  have C0 := Lib.hid (dnone_no hi.made)
  have HI := Lib.hid (And.intro ok hi)
  obtain ⟨qa, qc, rfl, _, _⟩ := hi.hq.shape
  obtain ⟨ba, bc, rfl, _, _⟩ := hi.hbl.shape
  obtain ⟨sa, scc, rfl, _, _⟩ := hi.hsc.shape
  obtain ⟨oa, oc, rfl, _, _⟩ := hi.hou.shape
  have e0 : w.cell? ⟨b, 0, none⟩ = some (.int .u32 s.bits) := cell_of hi.cs 0 rfl
  have e1 : w.cell? ⟨b, 1, none⟩ = some (.int .u32 s.mask) := cell_of hi.cs 1 rfl
  have e2 : w.cell? ⟨b, 2, none⟩ = some (.slice qa s.queue.length qc) := cell_of hi.cs 2 rfl
  have e3 : w.cell? ⟨b, 3, none⟩ = some (.slice ba (s.disk.length / 64) bc) := cell_of hi.cs 3 rfl
  have e4 : w.cell? ⟨b, 4, none⟩ = some (.int .u32 s.bk) := cell_of hi.cs 4 rfl
  have e5 : w.cell? ⟨b, 5, none⟩ = some (.int .u32 s.ad) := cell_of hi.cs 5 rfl
  have e6 : w.cell? ⟨b, 6, none⟩ = some (.int .u32 s.st) := cell_of hi.cs 6 rfl
  have e7 : w.cell? ⟨b, 7, none⟩ = some (.int .u32 s.kd) := cell_of hi.cs 7 rfl
  have e8 : w.cell? ⟨b, 8, none⟩ = some (.int .u32 s.fr) := cell_of hi.cs 8 rfl
  have e9 : w.cell? ⟨b, 9, none⟩ = some (.int .u32 s.to) := cell_of hi.cs 9 rfl
  have e10 : w.cell? ⟨b, 10, none⟩ = some (.bool true) := cell_of hi.cs 10 rfl
  have e11 : w.cell? ⟨b, 11, none⟩ = some (.slice sa s.script.length scc) := cell_of hi.cs 11 rfl
  have e12 : w.cell? ⟨b, 12, none⟩ = some (.slice oa s.out.length oc) := cell_of hi.cs 12 rfl
  obtain ⟨cB, hcB⟩ : ∃ c, c = w.heap.size := ⟨_, rfl⟩
  have hbc : b < cB := by rw [hcB]; exact lt_of_heap hi.cs
  have HCB := Lib.hid hcB
  clear hi ok
  have fz : ∀ cs t i, (w.alloc (.cells cs t)).frozen? ⟨w.heap.size, i, none⟩ = false := fun cs t i => frozen_of (heap_alloc_at _ rfl) i
  have ca : ∀ o i u, w.cell? ⟨b, i, none⟩ = some u → (w.alloc o).cell? ⟨b, i, none⟩ = some u := fun o i u hu => ((Keep.refl [] w).alloc o).cell hu (by simp)
  have ca2 := fun o => ca o 2 _ e2
  clear ca hcB
  go_enter Try.func29, Try.ntmps29
  go_wp2_with (go_at_call 37; refine C0.out.mono ?_; rintro e w' ⟨rfl, rfl⟩)
  rw [← HCB.out]
  generalize hy : World.alloc w' _ = x0
  have H0 : Hid (x0.heap[cB]? = some (.cells (dvC s (.slice qa s.queue.length qc) (.slice ba (s.disk.length / 64) bc) (.slice sa s.script.length scc) (.slice oa s.out.length oc)) 74 (0, 0)) ∧ Keep [] w' x0 ∧ cB < x0.heap.size) := Lib.hid (by
    subst hy
    exact ⟨heap_alloc_at _ HCB.out, (Keep.refl [] _).alloc _, by have := HCB.out; simp; omega⟩)
  clear hy ca2 fz
  refine (cloneB_at ((HI.out.2.keep0 H0.out.2.1).hq.rd (u8s_one _)) (by have := HI.out.1.queue.2; omega)).mono ?_
  rintro e x1 ⟨v1, rfl, hb1, hk1, hs1⟩
  obtain ⟨va1, vc1, rfl, _, _⟩ := hb1.shape
  have h1 := hk1.heap H0.out.1 (by simp)
  have f1 := frozen_of h1
  have g1 : x1.cell? ⟨cB, 2, none⟩ = some (.slice qa s.queue.length qc) := cell_of h1 2 rfl
  have kx1 := H0.out.2.1.trans hk1
  have c1 := kx1.cell e11 (by simp)
  have H1 : Hid ((x1.setCell ⟨cB, 2, none⟩ (.slice va1 s.queue.length vc1)).heap[cB]? = some (.cells (dvC s (.slice va1 s.queue.length vc1) (.slice ba (s.disk.length / 64) bc) (.slice sa s.script.length scc) (.slice oa s.out.length oc)) 74 (0, 0)) ∧ Keep [] w' (x1.setCell ⟨cB, 2, none⟩ (.slice va1 s.queue.length vc1)) ∧ cB < (x1.setCell ⟨cB, 2, none⟩ (.slice va1 s.queue.length vc1)).heap.size) := Lib.hid (by
    have hh : (x1.setCell ⟨cB, 2, none⟩ (.slice va1 s.queue.length vc1)).heap[cB]? = some (.cells (dvC s (.slice va1 s.queue.length vc1) (.slice ba (s.disk.length / 64) bc) (.slice sa s.script.length scc) (.slice oa s.out.length oc)) 74 (0, 0)) := (heap_set_same h1 2 _).trans rfl
    exact ⟨hh, kx1.setCell (.inr (by have := HCB.out; simp; omega)) _, lt_of_heap hh⟩)
  have B1 := Lib.hid (And.intro hb1 (And.intro hk1 hs1))
  clear hb1 hk1 hs1 h1 kx1
  go_wp2_with fail
  generalize hy1 : World.setCell x1 _ _ = z1 at H1 ⊢
  have S1 : Hid (Keep [cB] x1 z1 ∧ x1.heap.size = z1.heap.size) := Lib.hid (by rw [← hy1]; exact ⟨(Keep.refl _ _).setCell (.inl (by simp)) _, by simp [World.setCell]⟩)
  clear hy1
  refine (cloneE_at ((HI.out.2.keep0 H1.out.2.1).hsc.rd (evsC_one _)) (by have := HI.out.1.script.2; omega)).mono ?_
  rintro e x2 ⟨v2, rfl, hb2, hk2, hs2⟩
  obtain ⟨va2, vc2, rfl, _, _⟩ := hb2.shape
  have h2 := hk2.heap H1.out.1 (by simp)
  have f2 := frozen_of h2
  have g2 : x2.cell? ⟨cB, 11, none⟩ = some (.slice sa s.script.length scc) := cell_of h2 11 rfl
  have kx2 := H1.out.2.1.trans hk2
  have c2 := kx2.cell e12 (by simp)
  have H2 : Hid ((x2.setCell ⟨cB, 11, none⟩ (.slice va2 s.script.length vc2)).heap[cB]? = some (.cells (dvC s (.slice va1 s.queue.length vc1) (.slice ba (s.disk.length / 64) bc) (.slice va2 s.script.length vc2) (.slice oa s.out.length oc)) 74 (0, 0)) ∧ Keep [] w' (x2.setCell ⟨cB, 11, none⟩ (.slice va2 s.script.length vc2)) ∧ cB < (x2.setCell ⟨cB, 11, none⟩ (.slice va2 s.script.length vc2)).heap.size) := Lib.hid (by
    have hh : (x2.setCell ⟨cB, 11, none⟩ (.slice va2 s.script.length vc2)).heap[cB]? = some (.cells (dvC s (.slice va1 s.queue.length vc1) (.slice ba (s.disk.length / 64) bc) (.slice va2 s.script.length vc2) (.slice oa s.out.length oc)) 74 (0, 0)) := (heap_set_same h2 11 _).trans rfl
    exact ⟨hh, kx2.setCell (.inr (by have := HCB.out; simp; omega)) _, lt_of_heap hh⟩)
  have B2 := Lib.hid (And.intro hb2 (And.intro hk2 hs2))
  clear hb2 hk2 hs2 h2 kx2
  go_wp2_with fail
  generalize hy2 : World.setCell x2 _ _ = z2 at H2 ⊢
  have S2 : Hid (Keep [cB] x2 z2 ∧ x2.heap.size = z2.heap.size) := Lib.hid (by rw [← hy2]; exact ⟨(Keep.refl _ _).setCell (.inl (by simp)) _, by simp [World.setCell]⟩)
  clear hy2
  refine (cloneB_at ((HI.out.2.keep0 H2.out.2.1).hou.rd (u8s_one _)) HI.out.1.out.2).mono ?_
  rintro e x3 ⟨v3, rfl, hb3, hk3, hs3⟩
  obtain ⟨va3, vc3, rfl, _, _⟩ := hb3.shape
  have h3 := hk3.heap H2.out.1 (by simp)
  have f3 := frozen_of h3
  have g3 : x3.cell? ⟨cB, 12, none⟩ = some (.slice oa s.out.length oc) := cell_of h3 12 rfl
  have kx3 := H2.out.2.1.trans hk3
  have c3 := kx3.cell e3 (by simp)
  have H3 : Hid ((x3.setCell ⟨cB, 12, none⟩ (.slice va3 s.out.length vc3)).heap[cB]? = some (.cells (dvC s (.slice va1 s.queue.length vc1) (.slice ba (s.disk.length / 64) bc) (.slice va2 s.script.length vc2) (.slice va3 s.out.length vc3)) 74 (0, 0)) ∧ Keep [] w' (x3.setCell ⟨cB, 12, none⟩ (.slice va3 s.out.length vc3)) ∧ cB < (x3.setCell ⟨cB, 12, none⟩ (.slice va3 s.out.length vc3)).heap.size) := Lib.hid (by
    have hh : (x3.setCell ⟨cB, 12, none⟩ (.slice va3 s.out.length vc3)).heap[cB]? = some (.cells (dvC s (.slice va1 s.queue.length vc1) (.slice ba (s.disk.length / 64) bc) (.slice va2 s.script.length vc2) (.slice va3 s.out.length vc3)) 74 (0, 0)) := (heap_set_same h3 12 _).trans rfl
    exact ⟨hh, kx3.setCell (.inr (by have := HCB.out; simp; omega)) _, lt_of_heap hh⟩)
  have B3 := Lib.hid (And.intro hb3 (And.intro hk3 hs3))
  clear hb3 hk3 hs3 h3 kx3
  go_wp2_with fail
  generalize hy3 : World.setCell x3 _ _ = z3 at H3 ⊢
  have S3 : Hid (Keep [cB] x3 z3 ∧ x3.heap.size = z3.heap.size) := Lib.hid (by rw [← hy3]; exact ⟨(Keep.refl _ _).setCell (.inl (by simp)) _, by simp [World.setCell]⟩)
  clear hy3
  refine (cloneK_at ((HI.out.2.keep0 H3.out.2.1).hbl.rd (u8s_one _)) (by have := HI.out.1.disk.2.1; omega)).mono ?_
  rintro e x4 ⟨v4, rfl, hb4, hk4, hs4⟩
  obtain ⟨va4, vc4, rfl, _, _⟩ := hb4.shape
  have h4 := hk4.heap H3.out.1 (by simp)
  have f4 := frozen_of h4
  have g4 : x4.cell? ⟨cB, 3, none⟩ = some (.slice ba (s.disk.length / 64) bc) := cell_of h4 3 rfl
  have kx4 := H3.out.2.1.trans hk4
  have H4 : Hid ((x4.setCell ⟨cB, 3, none⟩ (.slice va4 (s.disk.length / 64) vc4)).heap[cB]? = some (.cells (dvC s (.slice va1 s.queue.length vc1) (.slice va4 (s.disk.length / 64) vc4) (.slice va2 s.script.length vc2) (.slice va3 s.out.length vc3)) 74 (0, 0)) ∧ Keep [] w' (x4.setCell ⟨cB, 3, none⟩ (.slice va4 (s.disk.length / 64) vc4)) ∧ cB < (x4.setCell ⟨cB, 3, none⟩ (.slice va4 (s.disk.length / 64) vc4)).heap.size) := Lib.hid (by
    have hh : (x4.setCell ⟨cB, 3, none⟩ (.slice va4 (s.disk.length / 64) vc4)).heap[cB]? = some (.cells (dvC s (.slice va1 s.queue.length vc1) (.slice va4 (s.disk.length / 64) vc4) (.slice va2 s.script.length vc2) (.slice va3 s.out.length vc3)) 74 (0, 0)) := (heap_set_same h4 3 _).trans rfl
    exact ⟨hh, kx4.setCell (.inr (by have := HCB.out; simp; omega)) _, lt_of_heap hh⟩)
  have B4 := Lib.hid (And.intro hb4 (And.intro hk4 hs4))
  clear hb4 hk4 hs4 h4 kx4
  go_wp2_with fail
  go_ret
  generalize hy4 : World.setCell x4 _ _ = z4 at H4 ⊢
  have S4 : Hid (Keep [cB] x4 z4 ∧ x4.heap.size = z4.heap.size) := Lib.hid (by rw [← hy4]; exact ⟨(Keep.refl _ _).setCell (.inl (by simp)) _, by simp [World.setCell]⟩)
  clear hy4
  obtain ⟨b1, k1, l1⟩ := B1.out
  obtain ⟨b2, k2, l2⟩ := B2.out
  obtain ⟨b3, k3, l3⟩ := B3.out
  obtain ⟨b4, k4, l4⟩ := B4.out
  have z0 := H0.out.2.2
  have n1 := k1.size
  have n2 := k2.size
  have n3 := k3.size
  have n4 := k4.size
  have m1 := S1.out.2
  have m2 := S2.out.2
  have m3 := S3.out.2
  have m4 := S4.out.2
  have hw := HCB.out
  have r1 : ∀ j ∈ blk (.slice va1 s.queue.length vc1), x0.heap.size ≤ j ∧ j < x1.heap.size := fun j hj => ⟨l1 j hj, b1.lt j hj⟩
  have r2 : ∀ j ∈ blk (.slice va2 s.script.length vc2), x1.heap.size ≤ j ∧ j < x2.heap.size := fun j hj => ⟨by have := l2 j hj; omega, b2.lt j hj⟩
  have r3 : ∀ j ∈ blk (.slice va3 s.out.length vc3), x2.heap.size ≤ j ∧ j < x3.heap.size := fun j hj => ⟨by have := l3 j hj; omega, b3.lt j hj⟩
  have r4 : ∀ j ∈ blk (.slice va4 (s.disk.length / 64) vc4), x3.heap.size ≤ j ∧ j < x4.heap.size := fun j hj => ⟨by have := l4 j hj; omega, b4.lt j hj⟩
  have mv : ∀ {x y : World} {e : TypeId} {sz : Nat} {v : Value} {n : Nat} {xs : List Value}, Buf x e sz v n xs → Keep [cB] x y → (∀ j ∈ blk v, cB < j) → Buf y e sz v n xs := fun hb hk hn => hb.keep hk (fun j hj hm => by simp at hm; have := hn j hj; omega)
  have g1 : ∀ j ∈ blk (.slice va1 s.queue.length vc1), cB < j := fun j hj => by have := r1 j hj; omega
  have g2 : ∀ j ∈ blk (.slice va2 s.script.length vc2), cB < j := fun j hj => by have := r2 j hj; omega
  have g3 : ∀ j ∈ blk (.slice va3 s.out.length vc3), cB < j := fun j hj => by have := r3 j hj; omega
  have g4 : ∀ j ∈ blk (.slice va4 (s.disk.length / 64) vc4), cB < j := fun j hj => by have := r4 j hj; omega
  refine ⟨cB, _, rfl, ⟨HI.out.1, (.slice va1 s.queue.length vc1), (.slice va4 (s.disk.length / 64) vc4), (.slice va2 s.script.length vc2), (.slice va3 s.out.length vc3), ⟨H4.out.1, ?_, ?_, ?_, ?_, ?_⟩, rfl⟩, H4.out.2.1, ?_⟩
  · exact mv ((mv ((mv ((mv b1 S1.out.1 g1).keep0 k2) S2.out.1 g1).keep0 k3) S3.out.1 g1).keep0 k4) S4.out.1 g1
  · exact mv b4 S4.out.1 g4
  · exact mv ((mv ((mv b2 S2.out.1 g2).keep0 k3) S3.out.1 g2).keep0 k4) S4.out.1 g2
  · exact mv ((mv b3 S3.out.1 g3).keep0 k4) S4.out.1 g3
  · simp only [Aps, List.pairwise_cons]
    refine ⟨?_, ?_, ?_, ?_, ?_, List.Pairwise.nil⟩
    · intro a' ha' j hj hm
      simp at hj; subst hj
      simp only [List.mem_cons, List.not_mem_nil, or_false] at ha'
      rcases ha' with rfl | rfl | rfl | rfl
      · have := g1 _ hm; omega
      · have := g4 _ hm; omega
      · have := g2 _ hm; omega
      · have := g3 _ hm; omega
    · intro a' ha' j hj hm
      have := r1 j hj
      simp only [List.mem_cons, List.not_mem_nil, or_false] at ha'
      rcases ha' with rfl | rfl | rfl
      · have := r4 _ hm; omega
      · have := r2 _ hm; omega
      · have := r3 _ hm; omega
    · intro a' ha' j hj hm
      have := r4 j hj
      simp only [List.mem_cons, List.not_mem_nil, or_false] at ha'
      rcases ha' with rfl | rfl
      · have := r2 _ hm; omega
      · have := r3 _ hm; omega
    · intro a' ha' j hj hm
      have := r2 j hj
      simp only [List.mem_cons, List.not_mem_nil, or_false] at ha'
      subst ha'
      have := r3 _ hm; omega
    · intro a' ha'; simp at ha'
  · intro j hj
    simp only [List.mem_cons, List.mem_append] at hj
    rcases hj with rfl | ((hj | hj) | hj) | hj
    · omega
    · have := g1 j hj; omega
    · have := g4 j hj; omega
    · have := g2 j hj; omega
    · have := g3 j hj; omega

end Go.Proofs.Ytgeakpeaohggoaa
