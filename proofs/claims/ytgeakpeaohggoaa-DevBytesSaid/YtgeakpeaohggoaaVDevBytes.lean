/- The law DevBytes, walked. -/
import Derived.Test.YtgeakpeaohggoaaM09
namespace Go.Proofs.Ytgeakpeaohggoaa
open Go.RowKit Go.Mum
set_option linter.unusedVariables false
set_option linter.unusedSimpArgs false
set_option maxRecDepth 100000

/-- The bytes, as events. -/
def mkL : Nat → List Int → List Ev
  | _, [] => []
  | i, z :: r => ⟨i, 1, z⟩ :: mkL (i + 1) r

theorem mkL_length : ∀ (l : List Int) (i : Nat), (mkL i l).length = l.length
  | [], _ => rfl
  | z :: r, i => by simp [mkL, mkL_length r]
theorem mkL_append : ∀ (l : List Int) (i : Nat) (z : Int), mkL i (l ++ [z]) = mkL i l ++ [⟨(i + l.length : Nat), 1, z⟩]
  | [], i, z => by simp [mkL]
  | y :: r, i, z => by
    simp only [List.cons_append, mkL, mkL_append r, List.length_cons]
    rw [show i + 1 + r.length = i + (r.length + 1) by omega]
theorem mkL_drop : ∀ (l : List Int) (i k : Nat), (mkL i l).drop k = mkL (i + k) (l.drop k)
  | [], _, k => by cases k <;> simp [mkL]
  | z :: r, i, 0 => rfl
  | z :: r, i, k + 1 => by
    simp only [mkL, List.drop_succ_cons, mkL_drop r]
    rw [show i + 1 + k = i + (k + 1) by omega]
theorem mkL_ok : ∀ (l : List Int) (i : Nat), IsBytes l → i + l.length ≤ 1073741824 → ∀ e ∈ mkL i l, e.Ok ∧ mayB e = true
  | [], _, _, _, e, he => by simp [mkL] at he
  | z :: r, i, hb, hi, e, he => by
    simp only [mkL, List.mem_cons] at he
    simp only [List.length_cons] at hi
    rcases he with rfl | he
    · have := hb z (by simp)
      refine ⟨⟨?_, ?_, this⟩, ?_⟩
      · show -9223372036854775808 ≤ (i : Int) ∧ (i : Int) ≤ 9223372036854775807; omega
      · show -9223372036854775808 ≤ (1 : Int) ∧ (1 : Int) ≤ 9223372036854775807; omega
      · have h1 : (0 : Int) ≤ (i : Int) := by omega
        have h2 : (i : Int) ≤ 1073741824 := by omega
        simp [mayB, h2]
    · exact mkL_ok r (i + 1) (fun x hx => hb x (by simp [hx])) (by omega) e he
theorem mkL_cnt (l : List Int) (i : Nat) : cntD i (mkL i l) = if l = [] then 0 else 1 := by
  cases l with
  | nil => rfl
  | cons z r =>
    cases r with
    | nil => simp [mkL, cntD]
    | cons y q =>
      have : ¬ ((i : Int) + 1 ≤ i) := by omega
      simp [mkL, cntD, this]

theorem _root_.Go.Mum.Buf.row {w : World} {e : TypeId} {a : Option Addr} {n c : Nat} {L : List Int} (h : Buf w e 1 (.slice a n c) n (u8s L)) (hb : IsBytes L) : n = L.length ∧ Row w a c L := by
  obtain ⟨hl, a', c', e1, h1, h2, h3⟩ := h
  injection e1 with e1 _ e3
  subst e1 e3
  have hn : n = L.length := by rw [u8s_length] at hl; omega
  refine ⟨hn, hb, ⟨by omega, h2⟩, ?_⟩
  rcases h3 with h3 | ⟨g, off, cur, rfl, hg, h4, h5⟩
  · have : L = [] := List.eq_nil_of_length_eq_zero (by omega)
    cases a with
    | none => exact .inl ⟨rfl, this, h3⟩
    | some a => exact .inr (.inl ⟨this, _, rfl⟩)
  · refine .inr (.inr ⟨g, off, rfl, fun i hi => ?_⟩)
    exact cell_of hg _ (h5 i _ (by simp [u8s, List.getElem?_eq_getElem hi, List.getD]))

theorem _root_.Go.Mum.Buf.rd {w : World} {e : TypeId} {sz : Nat} {a : Option Addr} {n c : Nat} {xs : List Value} (h : Buf w e sz (.slice a n c) n xs) (h1 : ∀ u ∈ xs, u.oneCell' = true) : Rd w sz a n c xs := by
  obtain ⟨hl, a', c', e1, h2, h3, h4⟩ := h
  injection e1 with e1 _ e3
  subst e1 e3
  refine ⟨hl, h1, ⟨h2, h3⟩, fun ha => ?_, ?_⟩
  · rcases h4 with h4 | ⟨g, off, cur, rfl, _⟩
    · omega
    · cases ha
  · rcases h4 with h4 | ⟨g, off, cur, rfl, hg, h5, h6⟩
    · exact .inl (by omega)
    · exact .inr ⟨g, off, rfl, fun j u hu => cell_of hg _ (h6 j u hu)⟩

def lenOf : Value → Nat | .slice _ n _ => n | _ => 0

/-- Between two rounds: the bytes Q wait, the bytes G were read. -/
def BytesI (w : World) (D : List Int) (b k : Nat) (Q G : List Int) (gv : Value) (W : World) : Prop :=
  ∃ F s, DvAt W b F s ∧ s.script = (mkL 0 D).drop k ∧ s.queue = Q ∧ Keep [] w W ∧ (∀ j ∈ F, w.heap.size ≤ j) ∧ Buf W 5 1 gv G.length (u8s G) ∧ ∀ j ∈ blk gv, w.heap.size ≤ j ∧ j ∉ F

theorem BytesI.keep0 {w W x : World} {D : List Int} {b k : Nat} {Q G : List Int} {gv : Value} (h : BytesI w D b k Q G gv W) (hk : Keep [] W x) : BytesI w D b k Q G gv x := by
  obtain ⟨F, s, h1, h2, h3, h4, h5, h6, h7⟩ := h
  exact ⟨F, s, h1.keep0 hk, h2, h3, h4.trans hk, h5, h6.keep0 hk, h7⟩

theorem BytesI.to {w W x : World} {D : List Int} {b k' : Nat} {Q' G : List Int} {gv : Value} {F : List Nat} {s' : DS} (h1 : ∀ j ∈ F, j < W.heap.size) (h4 : Keep [] w W) (h5 : ∀ j ∈ F, w.heap.size ≤ j) (h6 : Buf W 5 1 gv G.length (u8s G)) (h7 : ∀ j ∈ blk gv, w.heap.size ≤ j ∧ j ∉ F)
    {F' : List Nat} (hd : DvAt x b F' s') (hk : Keep F W x) (hf : ∀ j ∈ F', j ∈ F ∨ W.heap.size ≤ j) (hs : s'.script = (mkL 0 D).drop k') (hq : s'.queue = Q') : BytesI w D b k' Q' G gv x := by
  refine ⟨F', s', hd, hs, hq, keep_next h4 h5 hk, fresh_next (x := x) h5 h4.size hf, h6.keep hk (fun j hj => (h7 j hj).2), fun j hj => ⟨(h7 j hj).1, fun hm => ?_⟩⟩
  rcases hf j hm with h | h
  · exact (h7 j hj).2 h
  · have := h6.lt j hj; omega

theorem bytes_come {w W : World} {D : List Int} {b k : Nat} {Q G : List Int} {gv : Value} (h : BytesI w D b k Q G gv W) (hD : D.length ≤ 30) (hk : k ≤ 40) (hG : G ++ Q = D.take k) :
    Calls Try.prog 12 #[.pointer (some ⟨b, 0, none⟩), .int .i64 (k : Int), .pointer none] W fun e w' => ∃ v, e = .returned v ∧ ∃ Q', G ++ Q' = D.take (k + 1) ∧ BytesI w D b (k + 1) Q' G gv w' := by
  obtain ⟨F, s, h1, h2, h3, h4, h5, h6, h7⟩ := h
  refine (come_nil h1 k (by omega)).mono ?_
  rintro e w' ⟨v, rfl, hb, hbk, F2, hd, hk, hf, hn⟩
  refine ⟨_, rfl, ?_⟩
  have hc : cntD (k : Int) s.script = if D.drop k = [] then 0 else 1 := by rw [h2, mkL_drop, Nat.zero_add]; exact mkL_cnt _ _
  rw [hc] at hd
  by_cases he : D.drop k = []
  · rw [if_pos he] at hd
    have hle : D.length ≤ k := by simpa using he
    refine ⟨Q, ?_, BytesI.to h1.lt h4 h5 h6 h7 hd hk hf ?_ ?_⟩
    · rw [hG, List.take_of_length_le hle, List.take_of_length_le (by omega)]
    · show s.script.drop 0 = _
      rw [List.drop_zero, h2, List.drop_eq_nil_of_le (by rw [mkL_length]; exact hle), List.drop_eq_nil_of_le (by rw [mkL_length]; omega)]
    · show s.queue = Q
      exact h3
  · rw [if_neg he] at hd
    have hlt : k < D.length := by
      rcases Nat.lt_or_ge k D.length with h | h
      · exact h
      · exact absurd (List.drop_eq_nil_of_le h) he
    have hdk : D.drop k = D[k] :: D.drop (k + 1) := List.drop_eq_getElem_cons hlt
    have hsc : s.script = ⟨(k : Int), 1, D[k]⟩ :: mkL (k + 1) (D.drop (k + 1)) := by rw [h2, mkL_drop, Nat.zero_add, hdk]; rfl
    have hql : s.queue.length < 32 := by
      have := congrArg List.length hG
      rw [List.length_append, List.length_take, h3.symm] at this
      omega
    have hcome : comeK s 1 = { pressS s D[k] with script := s.script.drop 1 } := by
      unfold comeK
      rw [hsc]
      simp [come1]
    rw [hcome] at hd
    refine ⟨Q ++ [D[k]], ?_, BytesI.to h1.lt h4 h5 h6 h7 hd hk hf ?_ ?_⟩
    · rw [← List.append_assoc, hG, List.take_add_one]; simp [hlt]
    · show s.script.drop 1 = _
      rw [h2, List.drop_drop]
    · show (pressS s D[k]).queue = _
      simp only [pressS]
      rw [if_pos hql, h3]

theorem bytes_in {w W : World} {D : List Int} {b k : Nat} {Q G : List Int} {gv : Value} (h : BytesI w D b k Q G gv W) :
    Calls Try.prog 13 #[.pointer (some ⟨b, 0, none⟩), .int .i64 1] W fun e w' => e = .returned (.int .u32 (Q.length : Nat)) ∧ w' = W := by
  obtain ⟨F, s, h1, h2, h3, h4, h5, h6, h7⟩ := h
  refine (din_at h1 1).mono ?_
  rintro e w' ⟨rfl, rfl⟩
  refine ⟨?_, rfl⟩
  rw [← h3]; rfl

theorem bytes_read {w W : World} {D : List Int} {b k : Nat} {Q G : List Int} {gv : Value} (h : BytesI w D b k Q G gv W) :
    Calls Try.prog 14 #[.pointer (some ⟨b, 0, none⟩), .int .i64 0] W fun e w' => e = .returned (.int .u32 (firstS Q)) ∧ BytesI w D b k (Q.drop 1) G gv w' := by
  obtain ⟨F, s, h1, h2, h3, h4, h5, h6, h7⟩ := h
  refine (dread_at h1 0).mono ?_
  rintro e w' ⟨rfl, F2, hd, hk, hf⟩
  refine ⟨by rw [← h3]; rfl, BytesI.to h1.lt h4 h5 h6 h7 hd hk hf ?_ ?_⟩
  · show s.script = _; exact h2
  · show s.queue.drop 1 = _; rw [h3]

theorem bytes_got {w W w1 : World} {D : List Int} {b k : Nat} {Q G : List Int} {gv v' : Value} {z : Int} {o : Obj} (h : BytesI w D b k Q G gv W) (hb : Buf w1 5 1 v' (G.length + 1) (u8s G ++ [.int .u8 z])) (hk : Keep (blk gv) (W.alloc o) w1) (hs : ∀ j ∈ blk v', j ∈ blk gv ∨ j = (W.alloc o).heap.size) :
    BytesI w D b k Q (G ++ [z]) v' w1 := by
  obtain ⟨F, s, h1, h2, h3, h4, h5, h6, h7⟩ := h
  have hk' : Keep (blk gv) W w1 := (((Keep.refl _ _).alloc o)).trans hk
  refine ⟨F, s, h1.keep hk' (fun j hj hm => (h7 j hm).2 hj), h2, h3, h4.then hk' (fun j hj hlt => by have := (h7 j hj).1; omega), h5, by rw [List.length_append, u8s_append]; exact hb, fun j hj => ?_⟩
  rcases hs j hj with h | h
  · exact h7 j h
  · have := h4.size
    simp at h
    exact ⟨by omega, fun hm => by have := h1.lt j hm; omega⟩

set_option maxHeartbeats 8000000 in
theorem DevBytes_walk (s0 : Option Addr) (len0 cap0 n0 : Nat) (a1 : Int) (w : World) (w0 : Fits Try.prog w maxLen n0 22 [.slice s0 len0 cap0]) (w1 : (Lit.int .u8 a1).wf = true) :
    Calls Try.prog 3 #[.slice s0 len0 cap0, .int .u8 a1] w fun e w' => e = .returned (.bool true) ∧ Below w.heap.size w w' := by
  obtain ⟨D, hlen, hrow, _⟩ := row_of_fits w0
  have ha := wf_u8 w1
  clear w0 w1
  obtain ⟨i0, hif, hz0, hz1, hz2⟩ := info_parts info_ev
  obtain ⟨j0, jif, jz0, jz1, jz2⟩ := info_parts info_u8b
  have a4 : a1.tmod 4 = a1 % 4 := Int.tmod_eq_emod_of_nonneg (by omega)
  by_cases h30 : 30 < len0
  · obtain ⟨tb, toff, rfl⟩ := hrow.some_of (by omega)
    have t0 : decide ((30 : Int) < (len0 : Int)) = true := decide_eq_true (by omega)
    have HR0 := hrow.take 30
    have hl0 : (D.take 30).length = 30 := by rw [List.length_take]; omega
    have hc30 : 30 ≤ cap0 := by have := hrow.cap; omega
    generalize D.take 30 = D at HR0 hl0
    have HR := Lib.hid HR0
    have HL := Lib.hid hl0
    clear hrow HR0 hl0 hlen
    go_enter Try.func3, Try.ntmps3
    go_wp2_with fail
    go_loopw [5, 6, 16, 17, 18, 19, 20, 21, 22, 23, 24, 25, 26, 27, 28, 29, 30] (fun i5 i6 _ _ _ _ _ _ _ _ _ _ _ _ _ _ _ wr =>  ∃ k : Nat, i6 = .int .i64 k ∧ k ≤ 30 ∧ Hid (Buf wr 25 3 i5 k (evsC (mkL 0 (D.take k))) ∧ (∀ j ∈ blk i5, w.heap.size ≤ j) ∧ Keep [] w wr)) (fun _ i6 _ _ _ _ _ _ _ _ _ _ _ _ _ _ _ _ =>  30 - (intOf i6).toNat)
    case atStart => exact ⟨0, rfl, by omega, Lib.hid ⟨by simpa [mkL, evsC] using Buf.nil _ _ _, by simp [blk], Keep.refl _ _⟩⟩
    case round =>
      obtain ⟨k, rfl, hk, HB⟩ := hrel
      obtain ⟨va, vc, hv, hvc1, hvc2⟩ := HB.out.1.shape
      subst hv
      by_cases hkm : k < 30
      · have t1 : decide ((k : Int) < (30 : Int)) = true := decide_eq_true (by omega)
        obtain ⟨rb, roff, hra⟩ := HR.out.some_of (by have := HL.out; omega)
        have hrc : wr.cell? ⟨rb, roff + k, none⟩ = some (.int .u8 (D.getD k 0)) := by
          rcases HR.out.at' with ⟨h1, _⟩ | ⟨h1, _⟩ | ⟨b', off', e', hc⟩
          · rw [h1] at hra; cases hra
          · exfalso; have h2 := HL.out; rw [h1] at h2; simp only [List.length_nil] at h2; omega
          · rw [e'] at hra; cases hra
            exact HB.out.2.2.cell (hc k (by have := HL.out; omega)) (by simp)
        have hgd : D[k]? = some (D.getD k 0) := by have := HL.out; rw [List.getD, List.getElem?_eq_getElem (by omega)]; rfl
        generalize D.getD k 0 = z at hrc hgd
        have HG := Lib.hid hgd
        have HRA := Lib.hid hra
        have B1 := Lib.hid (HB.out.1.keep0 ((Keep.refl [] wr).alloc (.cells #[.int .i64 (k : Nat), .int .i64 1, .int .u8 z] 25)))
        clear hgd
        cases hra
        go_wp2_with (at_builtin; go_loud (refine wpList_append_buf rfl _ _ 23 rfl 25 3 i0 (.agg #[.int .i64 0, .int .i64 0, .int .u8 0]) 24 Try.underlying23 hif hz0 hz1 hz2 (.slice va k vc) _ _ rfl B1.out _ 1 [.int .i64 (k : Nat), .int .i64 1, .int .u8 z] rfl (Src.ofSlice _ Try.underlying23 ⟨wr.heap.size, 0, none⟩ 1 1 [.int .i64 (k : Nat), .int .i64 1, .int .u8 z] rfl (World.news_of_block (cs := #[.int .i64 (k : Nat), .int .i64 1, .int .u8 z]) (heap_alloc_at _ (by simp))) (by simp [Value.oneCell'])) rfl (by unfold maxLen; omega) (by omega) ?_); intro v' w2 hb1 hk1 hs1; have H1 := Lib.hid (And.intro hb1 (And.intro hk1 hs1)); clear hb1 hk1 hs1)
        go_roundw
        case rel =>
          refine ⟨k + 1, by go_num, by omega, Lib.hid ?_⟩
          obtain ⟨hb, hk1, hs1⟩ := H1.out
          have ht : D.take (k + 1) = D.take k ++ [z] := by rw [List.take_add_one, HG.out]; rfl
          refine ⟨?_, fun j hj => ?_, ?_⟩
          · rw [ht, mkL_append, evsC_append]
            have hkl : (D.take k).length = k := by rw [List.length_take]; have := HL.out; omega
            rw [hkl, Nat.zero_add]
            exact hb
          · rcases hs1 j hj with h | h
            · exact HB.out.2.1 j h
            · have := HB.out.2.2.size; simp at h; omega
          · exact HB.out.2.2.then (((Keep.refl _ _).alloc _).trans hk1) (fun j hj hlt => by have := HB.out.2.1 j hj; omega)
        case measure => simp [intOf]; omega
      · obtain rfl : 30 = k := by omega
        have t1 : decide ((30 : Int) < (30 : Int)) = false := decide_eq_false (by omega)
        have hD := HL.out
        have hdt : D.take 30 = D := List.take_of_length_le (by omega)
        have hNM : (mkL 0 D).length = 30 := by rw [mkL_length]; omega
        have hbb : Buf wr 25 3 (.slice va (mkL 0 D).length vc) (mkL 0 D).length (evsC (mkL 0 D)) := by have := HB.out.1; rw [hdt] at this; rw [hNM]; exact this
        have hmk := mkL_ok D 0 HR.out.bytes (by omega)
        have N1 := new_yes (hbb.rd (evsC_one _)) (fun e he => (hmk e he).1) (by omega) (fun e he => (hmk e he).2)
        rw [hNM] at N1
        have N2 := Lib.hid N1
        have HKw := Lib.hid HB.out.2.2
        clear N1 hbb hmk hdt hNM hD HB
        go_wp2_with (go_at_call 11; refine N2.out.mono ?_; rintro e w2 ⟨b, F, rfl, hd, hk, hf⟩; have HI0 : Hid (BytesI w D b 0 [] [] (.slice none 0 0) w2) := Lib.hid ⟨F, _, hd, rfl, rfl, HKw.out.trans hk, fun j hj => by have := hf j hj; have := HKw.out.size; omega, Buf.nil _ _ _, by simp [blk]⟩; clear hd hk hf)
        go_loopw [9, 10, 38, 39, 40, 41, 42, 43, 44, 45, 46, 47, 48, 49, 50, 51, 52, 53, 54, 55, 56, 57, 58, 59, 60, 61] (fun i9 i10 _ _ _ _ _ _ _ _ _ _ _ _ _ _ _ _ _ _ _ _ _ _ _ _ wr =>  ∃ (k : Nat) (Q G : List Int), i10 = .int .i64 k ∧ k ≤ 40 ∧ Hid (BytesI w D b k Q G i9 wr) ∧ Hid (G ++ Q = D.take k)) (fun _ i10 _ _ _ _ _ _ _ _ _ _ _ _ _ _ _ _ _ _ _ _ _ _ _ _ _ =>  40 - (intOf i10).toNat)
        case atStart => exact ⟨0, [], [], rfl, by omega, HI0, Lib.hid (by simp)⟩
        case round =>
          clear HI0
          obtain ⟨k, Q, G, rfl, hk, HI, HQ⟩ := hrel
          rename World => wo
          have hDl : D.length ≤ 30 := by have := HL.out; omega
          by_cases hk4 : k < 40
          · have t2 : decide ((k : Int) < 40) = true := decide_eq_true (by omega)
            have q1 : IntKind.u8.wrap (k : Int) = (k : Int) := by rw [IntKind.wrap_u8]; omega
            have q2 : (k : Int).tmod 4 = (k : Int) % 4 := Int.tmod_eq_emod_of_nonneg (by omega)
            have hGl : G.length ≤ 30 := by have := congrArg List.length HQ.out; rw [List.length_append, List.length_take] at this; omega
            by_cases hb : a1 % 4 ≤ (k : Int) % 4
            · have t3 : decide (a1 % 4 ≤ (k : Int) % 4) = true := decide_eq_true hb
              go_wp2_with (go_at_call 12; refine (bytes_come HI.out hDl hk HQ.out).mono ?_; rintro e w3 ⟨v, rfl, Q', hq, hi⟩; have HI' := Lib.hid hi; have HQ' := Lib.hid hq; clear hi hq)
              refine (bytes_in HI'.out).mono ?_
              rintro e w4 ⟨rfl, rfl⟩
              cases Q' with
              | nil =>
                have t4 : decide ((0 : Int) < ((([] : List Int).length : Nat) : Int)) = false := rfl
                go_wp2_with fail
                go_roundw
                case rel => exact ⟨k + 1, [], G, by go_num, by omega, HI', HQ'⟩
                case measure => simp [intOf]; omega
              | cons z r =>
                have hGB : Hid (Buf w4 5 1 u9 G.length (u8s G)) := Lib.hid (by obtain ⟨F, s, h1, h2, h3, h4, h5, h6, h7⟩ := HI'.out; exact h6)
                obtain ⟨ga, gc, hgv, _, _⟩ := hGB.out.shape
                subst hgv
                have hz : 0 ≤ z ∧ z < 256 := HR.out.bytes z (List.mem_of_mem_take (i := k + 1) (by rw [← HQ'.out]; simp))
                have q3 : IntKind.u8.wrap z = z := by rw [IntKind.wrap_u8]; omega
                obtain ⟨ql, hql⟩ : ∃ ql, ql = (z :: r).length := ⟨_, rfl⟩
                rw [← hql]
                have hq0 : 0 < ql := by rw [hql]; simp
                have t4 : decide ((0 : Int) < (ql : Int)) = true := decide_eq_true (by omega)
                clear hql
                go_wp2_with (first
                  | (go_at_call 14; refine (bytes_read HI'.out).mono ?_; rintro e w5 ⟨rfl, hi⟩; rw [show firstS (z :: r) = z from rfl]; have HI2 := Lib.hid (show BytesI w D b (k + 1) r G _ w5 from hi); have B2 : Hid (Buf (w5.alloc (.cells #[.int .u8 z] 5)) 5 1 (.slice ga G.length gc) G.length (u8s G)) := Lib.hid (by obtain ⟨F, s, h1, h2, h3, h4, h5, h6, h7⟩ := hi; exact h6.keep0 ((Keep.refl [] _).alloc _)); clear hi)
                  | (at_builtin; go_loud (refine wpList_append_buf rfl _ _ 22 rfl 5 1 j0 (.int .u8 0) 1 Try.underlying22 jif jz0 jz1 jz2 (.slice ga G.length gc) _ _ rfl B2.out _ 1 [.int .u8 z] rfl (Src.ofSlice _ Try.underlying22 ⟨_, 0, none⟩ 1 1 [.int .u8 z] rfl (World.news_of_block (cs := #[.int .u8 z]) (heap_alloc_at _ (by simp))) (by simp [Value.oneCell'])) rfl (by unfold maxLen; omega) (by omega) ?_); intro v' w6 hb1 hk1 hs1; have H6 := Lib.hid (bytes_got HI2.out hb1 hk1 hs1); clear hb1 hk1 hs1))
                go_roundw
                case rel => exact ⟨k + 1, r, G ++ [z], by go_num, by omega, H6, Lib.hid (by rw [List.append_assoc]; exact HQ'.out)⟩
                case measure => simp [intOf]; omega
            · have t3 : decide (a1 % 4 ≤ (k : Int) % 4) = false := decide_eq_false hb
              go_wp2_with (go_at_call 12; refine (bytes_come HI.out hDl hk HQ.out).mono ?_; rintro e w3 ⟨v, rfl, Q', hq, hi⟩; have HI' := Lib.hid hi; have HQ' := Lib.hid hq; clear hi hq)
              go_roundw
              case rel => exact ⟨k + 1, Q', G, by go_num, by omega, HI', HQ'⟩
              case measure => simp [intOf]; omega
          · have t2 : decide ((k : Int) < 40) = false := decide_eq_false (by omega)
            have HQD : Hid (G ++ Q = D) := Lib.hid (by rw [HQ.out]; exact List.take_of_length_le (by omega))
            clear HQ
            go_wp2_with fail
            go_loopw [9, 62, 63, 64, 65, 66, 67, 68, 69, 70, 71, 72, 73, 74, 75] (fun i9 _ _ _ _ _ _ _ _ _ _ _ _ _ _ wr =>  ∃ (Q G : List Int), Hid (BytesI w D b k Q G i9 wr) ∧ Hid (G ++ Q = D)) (fun i9 _ _ _ _ _ _ _ _ _ _ _ _ _ _ _ =>  D.length - (lenOf i9))
            case atStart => exact ⟨Q, G, HI, HQD⟩
            case round =>
              clear HI HQD
              obtain ⟨Q, G, HI, HQ⟩ := hrel
              have hGB : Hid (Buf wr 5 1 u9 G.length (u8s G)) := Lib.hid (by obtain ⟨F, s, h1, h2, h3, h4, h5, h6, h7⟩ := HI.out; exact h6)
              obtain ⟨ga, gc, hgv, _, _⟩ := hGB.out.shape
              subst hgv
              have hGl : G.length ≤ 30 := by have := congrArg List.length HQ.out; rw [List.length_append] at this; omega
              go_wp2_with fail
              refine (bytes_in HI.out).mono ?_
              rintro e w4 ⟨rfl, rfl⟩
              cases Q with
              | nil =>
                have t4 : decide ((0 : Int) < ((([] : List Int).length : Nat) : Int)) = false := rfl
                obtain rfl : G = D := by simpa using HQ.out
                obtain ⟨hgl, hgr⟩ := hGB.out.row HR.out.bytes
                have sc1 := run_string (P := Try.prog) (dst := 9) Try.underlying22 Try.underlying5 hgr G.length rfl Try.underlying9
                have hkw : Keep [] w w4 := by obtain ⟨F, s, h1, h2, h3, h4, h5, h6, h7⟩ := HI.out; exact h4
                have sc2 := run_string (P := Try.prog) (dst := 9) Try.underlying22 Try.underlying5 (HR.out.keep0 hkw) 30 HL.out.symm Try.underlying9
                have seq : ((strOfNums G).toList == (strOfNums G).toList) = true := by simp
                clear hgl hgr hkw
                go_wp2_with (first
                  | (go_at_call 14; refine (bytes_read HI.out).mono ?_; rintro e w5 ⟨rfl, hi⟩; rw [show firstS ([] : List Int) = 4294967295 from rfl]; have hk5 : Keep [] w w5 := (by obtain ⟨F, s, h1, h2, h3, h4, h5, h6, h7⟩ := hi; exact h4); have HK5 := Lib.hid hk5; clear hi hk5)
                  | (go_at_call 15; refine (works_at _).mono ?_; rintro e w6 ⟨rfl, hk⟩; have HK6 := Lib.hid hk; clear hk))
                go_ret
                exact ⟨rfl, (HK5.out.trans HK6.out).below (Nat.le_refl _) (by simp)⟩
              | cons z r =>
                have hz : 0 ≤ z ∧ z < 256 := HR.out.bytes z (by rw [← HQ.out]; simp)
                have q3 : IntKind.u8.wrap z = z := by rw [IntKind.wrap_u8]; omega
                obtain ⟨ql, hql⟩ : ∃ ql, ql = (z :: r).length := ⟨_, rfl⟩
                rw [← hql]
                have hq0 : 0 < ql := by rw [hql]; simp
                have t4 : decide ((0 : Int) < (ql : Int)) = true := decide_eq_true (by omega)
                have t5 : decide ((G.length : Int) < 50) = true := decide_eq_true (by omega)
                have t6 : G.length < 50 := by omega
                have hGD : G.length < D.length := by have := congrArg List.length HQ.out; rw [List.length_append] at this; simp at this; omega
                clear hql
                go_wp2_with (first
                  | (go_at_call 14; refine (bytes_read HI.out).mono ?_; rintro e w5 ⟨rfl, hi⟩; rw [show firstS (z :: r) = z from rfl]; have HI2 := Lib.hid (show BytesI w D b k r G _ w5 from hi); have B2 : Hid (Buf (w5.alloc (.cells #[.int .u8 z] 5)) 5 1 (.slice ga G.length gc) G.length (u8s G)) := Lib.hid (by obtain ⟨F, s, h1, h2, h3, h4, h5, h6, h7⟩ := hi; exact h6.keep0 ((Keep.refl [] _).alloc _)); clear hi)
                  | (at_builtin; go_loud (refine wpList_append_buf rfl _ _ 22 rfl 5 1 j0 (.int .u8 0) 1 Try.underlying22 jif jz0 jz1 jz2 (.slice ga G.length gc) _ _ rfl B2.out _ 1 [.int .u8 z] rfl (Src.ofSlice _ Try.underlying22 ⟨_, 0, none⟩ 1 1 [.int .u8 z] rfl (World.news_of_block (cs := #[.int .u8 z]) (heap_alloc_at _ (by simp))) (by simp [Value.oneCell'])) rfl (by unfold maxLen; omega) (by omega) ?_); intro v' w6 hb1 hk1 hs1; obtain ⟨va', vc', rfl, _, _⟩ := hb1.shape; have H6 := Lib.hid (bytes_got HI2.out hb1 hk1 hs1); clear hb1 hk1 hs1))
                go_roundw
                case rel => exact ⟨r, G ++ [z], H6, Lib.hid (by rw [List.append_assoc]; exact HQ.out)⟩
                case measure => simp [lenOf]; omega
  · have t0 : decide ((30 : Int) < (len0 : Int)) = false := decide_eq_false (by omega)
    have HR := Lib.hid hrow
    have HL := Lib.hid hlen.symm
    clear hrow hlen
    go_enter Try.func3, Try.ntmps3
    go_wp2_with fail
    go_loopw [5, 6, 16, 17, 18, 19, 20, 21, 22, 23, 24, 25, 26, 27, 28, 29, 30] (fun i5 i6 _ _ _ _ _ _ _ _ _ _ _ _ _ _ _ wr =>  ∃ k : Nat, i6 = .int .i64 k ∧ k ≤ len0 ∧ Hid (Buf wr 25 3 i5 k (evsC (mkL 0 (D.take k))) ∧ (∀ j ∈ blk i5, w.heap.size ≤ j) ∧ Keep [] w wr)) (fun _ i6 _ _ _ _ _ _ _ _ _ _ _ _ _ _ _ _ =>  len0 - (intOf i6).toNat)
    case atStart => exact ⟨0, rfl, by omega, Lib.hid ⟨by simpa [mkL, evsC] using Buf.nil _ _ _, by simp [blk], Keep.refl _ _⟩⟩
    case round =>
      obtain ⟨k, rfl, hk, HB⟩ := hrel
      obtain ⟨va, vc, hv, hvc1, hvc2⟩ := HB.out.1.shape
      subst hv
      by_cases hkm : k < len0
      · have t1 : decide ((k : Int) < (len0 : Int)) = true := decide_eq_true (by omega)
        obtain ⟨rb, roff, hra⟩ := HR.out.some_of (by have := HL.out; omega)
        have hrc : wr.cell? ⟨rb, roff + k, none⟩ = some (.int .u8 (D.getD k 0)) := by
          rcases HR.out.at' with ⟨h1, _⟩ | ⟨h1, _⟩ | ⟨b', off', e', hc⟩
          · rw [h1] at hra; cases hra
          · exfalso; have h2 := HL.out; rw [h1] at h2; simp only [List.length_nil] at h2; omega
          · rw [e'] at hra; cases hra
            exact HB.out.2.2.cell (hc k (by have := HL.out; omega)) (by simp)
        have hgd : D[k]? = some (D.getD k 0) := by have := HL.out; rw [List.getD, List.getElem?_eq_getElem (by omega)]; rfl
        generalize D.getD k 0 = z at hrc hgd
        have HG := Lib.hid hgd
        have HRA := Lib.hid hra
        have B1 := Lib.hid (HB.out.1.keep0 ((Keep.refl [] wr).alloc (.cells #[.int .i64 (k : Nat), .int .i64 1, .int .u8 z] 25)))
        clear hgd
        subst hra
        go_wp2_with (at_builtin; go_loud (refine wpList_append_buf rfl _ _ 23 rfl 25 3 i0 (.agg #[.int .i64 0, .int .i64 0, .int .u8 0]) 24 Try.underlying23 hif hz0 hz1 hz2 (.slice va k vc) _ _ rfl B1.out _ 1 [.int .i64 (k : Nat), .int .i64 1, .int .u8 z] rfl (Src.ofSlice _ Try.underlying23 ⟨wr.heap.size, 0, none⟩ 1 1 [.int .i64 (k : Nat), .int .i64 1, .int .u8 z] rfl (World.news_of_block (cs := #[.int .i64 (k : Nat), .int .i64 1, .int .u8 z]) (heap_alloc_at _ (by simp))) (by simp [Value.oneCell'])) rfl (by unfold maxLen; omega) (by omega) ?_); intro v' w2 hb1 hk1 hs1; have H1 := Lib.hid (And.intro hb1 (And.intro hk1 hs1)); clear hb1 hk1 hs1)
        go_roundw
        case rel =>
          refine ⟨k + 1, by go_num, by omega, Lib.hid ?_⟩
          obtain ⟨hb, hk1, hs1⟩ := H1.out
          have ht : D.take (k + 1) = D.take k ++ [z] := by rw [List.take_add_one, HG.out]; rfl
          refine ⟨?_, fun j hj => ?_, ?_⟩
          · rw [ht, mkL_append, evsC_append]
            have hkl : (D.take k).length = k := by rw [List.length_take]; have := HL.out; omega
            rw [hkl, Nat.zero_add]
            exact hb
          · rcases hs1 j hj with h | h
            · exact HB.out.2.1 j h
            · have := HB.out.2.2.size; simp at h; omega
          · exact HB.out.2.2.then (((Keep.refl _ _).alloc _).trans hk1) (fun j hj hlt => by have := HB.out.2.1 j hj; omega)
        case measure => simp [intOf]; omega
      · obtain rfl : len0 = k := by omega
        have t1 : decide ((len0 : Int) < (len0 : Int)) = false := decide_eq_false (by omega)
        have hD := HL.out
        have hdt : D.take len0 = D := List.take_of_length_le (by omega)
        have hNM : (mkL 0 D).length = len0 := by rw [mkL_length]; omega
        have hbb : Buf wr 25 3 (.slice va (mkL 0 D).length vc) (mkL 0 D).length (evsC (mkL 0 D)) := by have := HB.out.1; rw [hdt] at this; rw [hNM]; exact this
        have hmk := mkL_ok D 0 HR.out.bytes (by omega)
        have N1 := new_yes (hbb.rd (evsC_one _)) (fun e he => (hmk e he).1) (by omega) (fun e he => (hmk e he).2)
        rw [hNM] at N1
        have N2 := Lib.hid N1
        have HKw := Lib.hid HB.out.2.2
        clear N1 hbb hmk hdt hNM hD HB
        go_wp2_with (go_at_call 11; refine N2.out.mono ?_; rintro e w2 ⟨b, F, rfl, hd, hk, hf⟩; have HI0 : Hid (BytesI w D b 0 [] [] (.slice none 0 0) w2) := Lib.hid ⟨F, _, hd, rfl, rfl, HKw.out.trans hk, fun j hj => by have := hf j hj; have := HKw.out.size; omega, Buf.nil _ _ _, by simp [blk]⟩; clear hd hk hf)
        go_loopw [9, 10, 38, 39, 40, 41, 42, 43, 44, 45, 46, 47, 48, 49, 50, 51, 52, 53, 54, 55, 56, 57, 58, 59, 60, 61] (fun i9 i10 _ _ _ _ _ _ _ _ _ _ _ _ _ _ _ _ _ _ _ _ _ _ _ _ wr =>  ∃ (k : Nat) (Q G : List Int), i10 = .int .i64 k ∧ k ≤ 40 ∧ Hid (BytesI w D b k Q G i9 wr) ∧ Hid (G ++ Q = D.take k)) (fun _ i10 _ _ _ _ _ _ _ _ _ _ _ _ _ _ _ _ _ _ _ _ _ _ _ _ _ =>  40 - (intOf i10).toNat)
        case atStart => exact ⟨0, [], [], rfl, by omega, HI0, Lib.hid (by simp)⟩
        case round =>
          clear HI0
          obtain ⟨k, Q, G, rfl, hk, HI, HQ⟩ := hrel
          rename World => wo
          have hDl : D.length ≤ 30 := by have := HL.out; omega
          by_cases hk4 : k < 40
          · have t2 : decide ((k : Int) < 40) = true := decide_eq_true (by omega)
            have q1 : IntKind.u8.wrap (k : Int) = (k : Int) := by rw [IntKind.wrap_u8]; omega
            have q2 : (k : Int).tmod 4 = (k : Int) % 4 := Int.tmod_eq_emod_of_nonneg (by omega)
            have hGl : G.length ≤ 30 := by have := congrArg List.length HQ.out; rw [List.length_append, List.length_take] at this; omega
            by_cases hb : a1 % 4 ≤ (k : Int) % 4
            · have t3 : decide (a1 % 4 ≤ (k : Int) % 4) = true := decide_eq_true hb
              go_wp2_with (go_at_call 12; refine (bytes_come HI.out hDl hk HQ.out).mono ?_; rintro e w3 ⟨v, rfl, Q', hq, hi⟩; have HI' := Lib.hid hi; have HQ' := Lib.hid hq; clear hi hq)
              refine (bytes_in HI'.out).mono ?_
              rintro e w4 ⟨rfl, rfl⟩
              cases Q' with
              | nil =>
                have t4 : decide ((0 : Int) < ((([] : List Int).length : Nat) : Int)) = false := rfl
                go_wp2_with fail
                go_roundw
                case rel => exact ⟨k + 1, [], G, by go_num, by omega, HI', HQ'⟩
                case measure => simp [intOf]; omega
              | cons z r =>
                have hGB : Hid (Buf w4 5 1 u9 G.length (u8s G)) := Lib.hid (by obtain ⟨F, s, h1, h2, h3, h4, h5, h6, h7⟩ := HI'.out; exact h6)
                obtain ⟨ga, gc, hgv, _, _⟩ := hGB.out.shape
                subst hgv
                have hz : 0 ≤ z ∧ z < 256 := HR.out.bytes z (List.mem_of_mem_take (i := k + 1) (by rw [← HQ'.out]; simp))
                have q3 : IntKind.u8.wrap z = z := by rw [IntKind.wrap_u8]; omega
                obtain ⟨ql, hql⟩ : ∃ ql, ql = (z :: r).length := ⟨_, rfl⟩
                rw [← hql]
                have hq0 : 0 < ql := by rw [hql]; simp
                have t4 : decide ((0 : Int) < (ql : Int)) = true := decide_eq_true (by omega)
                clear hql
                go_wp2_with (first
                  | (go_at_call 14; refine (bytes_read HI'.out).mono ?_; rintro e w5 ⟨rfl, hi⟩; rw [show firstS (z :: r) = z from rfl]; have HI2 := Lib.hid (show BytesI w D b (k + 1) r G _ w5 from hi); have B2 : Hid (Buf (w5.alloc (.cells #[.int .u8 z] 5)) 5 1 (.slice ga G.length gc) G.length (u8s G)) := Lib.hid (by obtain ⟨F, s, h1, h2, h3, h4, h5, h6, h7⟩ := hi; exact h6.keep0 ((Keep.refl [] _).alloc _)); clear hi)
                  | (at_builtin; go_loud (refine wpList_append_buf rfl _ _ 22 rfl 5 1 j0 (.int .u8 0) 1 Try.underlying22 jif jz0 jz1 jz2 (.slice ga G.length gc) _ _ rfl B2.out _ 1 [.int .u8 z] rfl (Src.ofSlice _ Try.underlying22 ⟨_, 0, none⟩ 1 1 [.int .u8 z] rfl (World.news_of_block (cs := #[.int .u8 z]) (heap_alloc_at _ (by simp))) (by simp [Value.oneCell'])) rfl (by unfold maxLen; omega) (by omega) ?_); intro v' w6 hb1 hk1 hs1; have H6 := Lib.hid (bytes_got HI2.out hb1 hk1 hs1); clear hb1 hk1 hs1))
                go_roundw
                case rel => exact ⟨k + 1, r, G ++ [z], by go_num, by omega, H6, Lib.hid (by rw [List.append_assoc]; exact HQ'.out)⟩
                case measure => simp [intOf]; omega
            · have t3 : decide (a1 % 4 ≤ (k : Int) % 4) = false := decide_eq_false hb
              go_wp2_with (go_at_call 12; refine (bytes_come HI.out hDl hk HQ.out).mono ?_; rintro e w3 ⟨v, rfl, Q', hq, hi⟩; have HI' := Lib.hid hi; have HQ' := Lib.hid hq; clear hi hq)
              go_roundw
              case rel => exact ⟨k + 1, Q', G, by go_num, by omega, HI', HQ'⟩
              case measure => simp [intOf]; omega
          · have t2 : decide ((k : Int) < 40) = false := decide_eq_false (by omega)
            have HQD : Hid (G ++ Q = D) := Lib.hid (by rw [HQ.out]; exact List.take_of_length_le (by omega))
            clear HQ
            go_wp2_with fail
            go_loopw [9, 62, 63, 64, 65, 66, 67, 68, 69, 70, 71, 72, 73, 74, 75] (fun i9 _ _ _ _ _ _ _ _ _ _ _ _ _ _ wr =>  ∃ (Q G : List Int), Hid (BytesI w D b k Q G i9 wr) ∧ Hid (G ++ Q = D)) (fun i9 _ _ _ _ _ _ _ _ _ _ _ _ _ _ _ =>  D.length - (lenOf i9))
            case atStart => exact ⟨Q, G, HI, HQD⟩
            case round =>
              clear HI HQD
              obtain ⟨Q, G, HI, HQ⟩ := hrel
              have hGB : Hid (Buf wr 5 1 u9 G.length (u8s G)) := Lib.hid (by obtain ⟨F, s, h1, h2, h3, h4, h5, h6, h7⟩ := HI.out; exact h6)
              obtain ⟨ga, gc, hgv, _, _⟩ := hGB.out.shape
              subst hgv
              have hGl : G.length ≤ 30 := by have := congrArg List.length HQ.out; rw [List.length_append] at this; omega
              go_wp2_with fail
              refine (bytes_in HI.out).mono ?_
              rintro e w4 ⟨rfl, rfl⟩
              cases Q with
              | nil =>
                have t4 : decide ((0 : Int) < ((([] : List Int).length : Nat) : Int)) = false := rfl
                obtain rfl : G = D := by simpa using HQ.out
                obtain ⟨hgl, hgr⟩ := hGB.out.row HR.out.bytes
                have sc1 := run_string (P := Try.prog) (dst := 9) Try.underlying22 Try.underlying5 hgr G.length rfl Try.underlying9
                have hkw : Keep [] w w4 := by obtain ⟨F, s, h1, h2, h3, h4, h5, h6, h7⟩ := HI.out; exact h4
                have sc2 := run_string (P := Try.prog) (dst := 9) Try.underlying22 Try.underlying5 (HR.out.keep0 hkw) len0 HL.out.symm Try.underlying9
                have seq : ((strOfNums G).toList == (strOfNums G).toList) = true := by simp
                clear hgl hgr hkw
                go_wp2_with (first
                  | (go_at_call 14; refine (bytes_read HI.out).mono ?_; rintro e w5 ⟨rfl, hi⟩; rw [show firstS ([] : List Int) = 4294967295 from rfl]; have hk5 : Keep [] w w5 := (by obtain ⟨F, s, h1, h2, h3, h4, h5, h6, h7⟩ := hi; exact h4); have HK5 := Lib.hid hk5; clear hi hk5)
                  | (go_at_call 15; refine (works_at _).mono ?_; rintro e w6 ⟨rfl, hk⟩; have HK6 := Lib.hid hk; clear hk))
                go_ret
                exact ⟨rfl, (HK5.out.trans HK6.out).below (Nat.le_refl _) (by simp)⟩
              | cons z r =>
                have hz : 0 ≤ z ∧ z < 256 := HR.out.bytes z (by rw [← HQ.out]; simp)
                have q3 : IntKind.u8.wrap z = z := by rw [IntKind.wrap_u8]; omega
                obtain ⟨ql, hql⟩ : ∃ ql, ql = (z :: r).length := ⟨_, rfl⟩
                rw [← hql]
                have hq0 : 0 < ql := by rw [hql]; simp
                have t4 : decide ((0 : Int) < (ql : Int)) = true := decide_eq_true (by omega)
                have t5 : decide ((G.length : Int) < 50) = true := decide_eq_true (by omega)
                have t6 : G.length < 50 := by omega
                have hGD : G.length < D.length := by have := congrArg List.length HQ.out; rw [List.length_append] at this; simp at this; omega
                clear hql
                go_wp2_with (first
                  | (go_at_call 14; refine (bytes_read HI.out).mono ?_; rintro e w5 ⟨rfl, hi⟩; rw [show firstS (z :: r) = z from rfl]; have HI2 := Lib.hid (show BytesI w D b k r G _ w5 from hi); have B2 : Hid (Buf (w5.alloc (.cells #[.int .u8 z] 5)) 5 1 (.slice ga G.length gc) G.length (u8s G)) := Lib.hid (by obtain ⟨F, s, h1, h2, h3, h4, h5, h6, h7⟩ := hi; exact h6.keep0 ((Keep.refl [] _).alloc _)); clear hi)
                  | (at_builtin; go_loud (refine wpList_append_buf rfl _ _ 22 rfl 5 1 j0 (.int .u8 0) 1 Try.underlying22 jif jz0 jz1 jz2 (.slice ga G.length gc) _ _ rfl B2.out _ 1 [.int .u8 z] rfl (Src.ofSlice _ Try.underlying22 ⟨_, 0, none⟩ 1 1 [.int .u8 z] rfl (World.news_of_block (cs := #[.int .u8 z]) (heap_alloc_at _ (by simp))) (by simp [Value.oneCell'])) rfl (by unfold maxLen; omega) (by omega) ?_); intro v' w6 hb1 hk1 hs1; obtain ⟨va', vc', rfl, _, _⟩ := hb1.shape; have H6 := Lib.hid (bytes_got HI2.out hb1 hk1 hs1); clear hb1 hk1 hs1))
                go_roundw
                case rel => exact ⟨r, G ++ [z], H6, Lib.hid (by rw [List.append_assoc]; exact HQ.out)⟩
                case measure => simp [lenOf]; omega

end Go.Proofs.Ytgeakpeaohggoaa
