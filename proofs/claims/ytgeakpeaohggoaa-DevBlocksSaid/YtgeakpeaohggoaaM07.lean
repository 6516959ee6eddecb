/- Contracts of the functions that the law reaches, walked, and the plain laws on them (several texts in one). -/
import Derived.Test.YtgeakpeaohggoaaM03
import Derived.Test.YtgeakpeaohggoaaM06

/- Devices: a port is read; what may be; new ones. -/
namespace Go.Proofs.Ytgeakpeaohggoaa
open Go.RowKit Go.Mum
set_option linter.unusedVariables false
set_option linter.unusedSimpArgs false
set_option maxRecDepth 100000

def readS (s : DS) (p : Int) : DS := if p = 0 then { s with queue := s.queue.drop 1 } else s

set_option maxHeartbeats 1000000 in
theorem dread_at {w : World} {b : Nat} {F : List Nat} {s : DS} (h : DvAt w b F s) (p : Int) :
    Calls Try.prog 14 #[.pointer (some ⟨b, 0, none⟩), .int .i64 p] w fun e w' => e = .returned (.int .u32 (inS s p)) ∧ DvTo b F (readS s p) w w' := by
  have C1 := Lib.hid (din_at h p)
  obtain ⟨ok, q, bl, sc, ou, hi, rfl⟩ := h
  have C0 := Lib.hid (dnone_no hi.made)
  obtain ⟨qa, qc, rfl, hq1, hq2⟩ := hi.hq.shape
  have e2 : w.cell? ⟨b, 2, none⟩ = some (.slice qa s.queue.length qc) := cell_of hi.cs 2 rfl
  have fz := frozen_of hi.cs
  have OK := Lib.hid ok
  have HI := Lib.hid hi
  have stay : DvTo b (b :: (blk (.slice qa s.queue.length qc) ++ blk bl ++ blk sc ++ blk ou)) s w w := ⟨_, ⟨ok, _, _, _, _, hi, rfl⟩, Keep.refl _ _, fun k hk => .inl hk⟩
  have turn : ∀ (V : Value) (r : List Int), ({ s with queue := r } : DS).Ok → Buf w 5 1 V r.length (u8s r) → (∀ k ∈ blk V, k ∈ blk (.slice qa s.queue.length qc)) → DvTo b (b :: (blk (.slice qa s.queue.length qc) ++ blk bl ++ blk sc ++ blk ou)) { s with queue := r } w (w.setCell ⟨b, 2, none⟩ V) := fun V r hr hV hs =>
    hi.toQ hr ((Keep.refl _ _).setCell (.inl (by simp)) _) (heap_set_same hi.cs 2 V) (hV.keep ((Keep.refl [b] _).setCell (.inl (by simp)) _) (fun k hk hb => by simp at hb; subst hb; exact hi.b_q (hs _ hk))) (fun k hk => .inl (hs k hk)) rfl rfl rfl
  generalize b :: (blk (.slice qa s.queue.length qc) ++ blk bl ++ blk sc ++ blk ou) = FF at stay turn ⊢
  have ST := Lib.hid stay
  by_cases hp : p = 0
  · subst hp
    cases hq : s.queue with
    | nil =>
      have hs : readS s 0 = s := by simp [readS, hq]; rw [← hq]
      have hl : s.queue.length = 0 := by rw [hq]; rfl
      rw [hs]
      rw [hl] at e2
      clear hi stay ok turn
      go_enter Try.func14, Try.ntmps14
      go_wp2_with (first | (go_at_call 13; refine C1.out.mono ?_; rintro e w' ⟨rfl, rfl⟩) | (go_at_call 37; refine C0.out.mono ?_; rintro e w' ⟨rfl, rfl⟩))
      go_ret
      exact ⟨rfl, ST.out⟩
    | cons z r =>
      have hl : s.queue.length = r.length + 1 := by rw [hq]; rfl
      have hQ := hi.hq
      rw [hq] at hQ
      obtain ⟨g, off, c, hv, hc, _⟩ := hQ.cells (by simp)
      injection hv with hv1 hv2 hv3
      subst hv1 hv3
      have hs : readS s 0 = { s with queue := r } := by simp [readS, hq]
      have hd := hQ.drop 1 (by simp)
      have hqc : 1 ≤ qc := by omega
      rw [hl] at e2
      rw [hs]
      have okr : ({ s with queue := r } : DS).Ok := by
        have := ok.queue
        rw [hq] at this
        exact ⟨ok.bits, ok.mask, ⟨fun x hx => this.1 x (by simp [hx]), by have := this.2; simp at this; show r.length ≤ 32; omega⟩, ok.disk, ok.bk, ok.ad, ok.st, ok.kd, ok.fr, ok.to, ok.script, ok.out⟩
      have OKR := Lib.hid okr
      have t1 : decide ((0 : Int) < (r.length : Int) + 1) = true := decide_eq_true (by omega)
      have f1 : qc = 1 → DvTo b FF { s with queue := r } w (w.setCell ⟨b, 2, none⟩ (.slice (some ⟨g, off, none⟩) r.length 0)) := fun h1 => by
        have hr0 : r = [] := List.eq_nil_of_length_eq_zero (by omega)
        subst hr0
        exact turn _ [] okr (Buf.empty _ _ _ _) (fun k hk => by simp [blk] at hk)
      have f2 : DvTo b FF { s with queue := r } w (w.setCell ⟨b, 2, none⟩ (.slice (some ⟨g, off + 1, none⟩) r.length (qc - 1))) := by
        refine turn _ r okr (by simpa [u8s] using hd) (fun k hk => ?_)
        by_cases h0 : qc - 1 = 0
        · simp [blk, h0] at hk
        · have : qc ≠ 0 := by omega
          simp [blk, h0] at hk
          simp [blk, this, hk]
      have F1 := Lib.hid f1
      have F2 := Lib.hid f2
      clear hi stay ok okr hQ hd turn f1 f2 HI OK ST
      by_cases h1 : qc = 1
      · subst h1
        go_enter Try.func14, Try.ntmps14
        go_wp2_with (first | (go_at_call 13; refine C1.out.mono ?_; rintro e w' ⟨rfl, rfl⟩) | (go_at_call 37; refine C0.out.mono ?_; rintro e w' ⟨rfl, rfl⟩))
        go_ret
        exact ⟨rfl, F1.out (by first | rfl | trivial)⟩
      · go_enter Try.func14, Try.ntmps14
        go_wp2_with (first | (go_at_call 13; refine C1.out.mono ?_; rintro e w' ⟨rfl, rfl⟩) | (go_at_call 37; refine C0.out.mono ?_; rintro e w' ⟨rfl, rfl⟩))
        go_ret
        exact ⟨rfl, F2.out⟩
  · have hp' : (p == 0) = false := by simp [hp]
    have hs : readS s p = s := by simp [readS, hp]
    rw [hs]
    clear hi stay ok turn
    go_enter Try.func14, Try.ntmps14
    go_wp2_with (first | (go_at_call 13; refine C1.out.mono ?_; rintro e w' ⟨rfl, rfl⟩) | (go_at_call 37; refine C0.out.mono ?_; rintro e w' ⟨rfl, rfl⟩))
    go_ret
    exact ⟨rfl, ST.out⟩

end Go.Proofs.Ytgeakpeaohggoaa

/- Devices: what may be; lists that are cloned. -/
namespace Go.Proofs.Ytgeakpeaohggoaa
open Go.RowKit Go.Mum
set_option linter.unusedVariables false
set_option linter.unusedSimpArgs false
set_option maxRecDepth 100000

/-- A slice that can be read. -/
structure Rd (w : World) (sz : Nat) (a : Option Addr) (n c : Nat) (xs : List Value) : Prop where
  len : xs.length = n * sz
  one : ∀ u ∈ xs, u.oneCell' = true
  cap : n ≤ c ∧ c ≤ maxLen
  none' : a = none → n = 0
  at' : n = 0 ∨ ∃ b off, a = some ⟨b, off, none⟩ ∧ ∀ j u, xs[j]? = some u → w.cell? ⟨b, off + j, none⟩ = some u

theorem Rd.keep0 {w x : World} {sz n c : Nat} {a : Option Addr} {xs : List Value} (h : Rd w sz a n c xs) (hk : Keep [] w x) : Rd x sz a n c xs :=
  ⟨h.len, h.one, h.cap, h.none', h.at'.imp id fun ⟨b, off, e, hc⟩ => ⟨b, off, e, fun j u hu => hk.cell (hc j u hu) (by simp)⟩⟩

theorem Rd.src {P : Program} {w : World} {sz n c : Nat} {a : Option Addr} {xs : List Value} (h : Rd w sz a n c xs) {t e : TypeId} (ht : P.underlying t = some (.slice e)) : Src P sz t (.slice a n c) n xs w := by
  cases a with
  | none =>
    obtain rfl := h.none' rfl
    have : xs = [] := List.eq_nil_of_length_eq_zero (by simpa using h.len)
    subst this
    exact Src.ofNil w ht c
  | some a =>
    refine Src.ofSlice w ht a n c xs h.len ?_ h.one
    rcases h.at' with rfl | ⟨b, off, e, hc⟩
    · have : xs = [] := List.eq_nil_of_length_eq_zero (by simpa using h.len)
      subst this
      simp
    · cases e
      intro j u hu
      rw [Addr.add_lit]
      exact hc j u hu

def mayB (e : Ev) : Bool := decide (0 ≤ e.kd) && decide (e.kd ≤ 2) && decide (0 ≤ e.at') && decide (e.at' ≤ 1073741824) && (e.kd == 1 || e.by' == 0)

set_option maxHeartbeats 1000000 in
theorem may_at (w : World) (e : Ev) : Calls Try.prog 34 #[.agg (evC e).toArray] w fun r w' => r = .returned (.bool (mayB e)) ∧ Keep [] w w' := by
  obtain ⟨R, hR⟩ : ∃ R, R = mayB e := ⟨_, rfl⟩
  rw [← hR]
  unfold mayB at hR
  simp only [evC]
  have fin : ∀ o, Keep [] w (w.alloc o) := fun o => (Keep.refl _ _).alloc o
  have cs : (decide (0 ≤ e.kd) = false ∧ R = false) ∨ (decide (0 ≤ e.kd) = true ∧ ((decide (e.kd ≤ 2) = false ∧ R = false) ∨ (decide (e.kd ≤ 2) = true ∧ ((decide (0 ≤ e.at') = false ∧ R = false) ∨ (decide (0 ≤ e.at') = true ∧ ((decide (e.at' ≤ 1073741824) = false ∧ R = false) ∨
      (decide (e.at' ≤ 1073741824) = true ∧ (((e.kd == 1) = true ∧ R = true) ∨ ((e.kd == 1) = false ∧ R = (e.by' == 0)))))))))) := by
    rw [hR]
    cases decide (0 ≤ e.kd) <;> cases decide (e.kd ≤ 2) <;> cases decide (0 ≤ e.at') <;> cases decide (e.at' ≤ 1073741824) <;> cases (e.kd == 1) <;> simp
  clear hR
  rcases cs with ⟨h0, rfl⟩ | ⟨h0, ⟨h1, rfl⟩ | ⟨h1, ⟨h2, rfl⟩ | ⟨h2, ⟨h3, rfl⟩ | ⟨h3, ⟨h4, rfl⟩ | ⟨h4, h5⟩⟩⟩⟩⟩
  case inr.inr.inr.inr.inr =>
    cases h6 : (e.by' == 0)
    all_goals
      rw [h6] at h5
      subst h5
      go_enter Try.func34, Try.ntmps34
      go_wp2
      go_ret
      exact ⟨rfl, fin _⟩
  all_goals
    go_enter Try.func34, Try.ntmps34
    go_wp2
    go_ret
    exact ⟨rfl, fin _⟩

set_option maxHeartbeats 1000000 in
theorem cloneE_at {w : World} {a : Option Addr} {n c : Nat} {L : List Ev} (h : Rd w 3 a n c (evsC L)) (hn : n ≤ 1073741824) :
    Calls Try.prog 35 #[.slice a n c] w fun e w' => ∃ v, e = .returned v ∧ Buf w' 25 3 v n (evsC L) ∧ Keep [] w w' ∧ ∀ k ∈ blk v, w.heap.size ≤ k := by
  obtain ⟨i0, hif, hz0, hz1, hz2⟩ := info_parts info_ev
  have q23 : ∀ (w : World) (a : Option Addr) (n c n' c' : Nat), (binOp .eql 23 (.slice a n c) (.slice none n' c')).run Try.prog w = .ok (.bool a.isNone) w := fun w a n c n' c' => Lib.run_eql_slice_nil w _ _ a n c n' c' Try.underlying23
  cases a with
  | none =>
    obtain rfl := h.none' rfl
    have hL : evsC L = [] := List.eq_nil_of_length_eq_zero (by simpa using h.len)
    rw [hL]
    clear hL
    go_enter Try.func35, Try.ntmps35
    go_wp2
    go_ret
    exact ⟨_, rfl, Buf.nil _ _ _, Keep.refl _ _, by simp [blk]⟩
  | some a =>
    have H := Lib.hid h
    clear h
    go_enter Try.func35, Try.ntmps35
    go_wp2_with (at_builtin; go_loud (refine wpList_append_buf rfl _ _ 23 rfl 25 3 i0 (.agg #[.int .i64 0, .int .i64 0, .int .u8 0]) 24 Try.underlying23 hif hz0 hz1 hz2 (.slice (some ⟨w.heap.size, 0, none⟩) 0 0) 0 [] rfl (Buf.empty _ _ _ _) _ n (evsC L) rfl ((H.out.keep0 ((Keep.refl [] w).alloc _)).src Try.underlying23) rfl (by unfold maxLen; omega) (by omega) ?_); intro v' w1 hb1 hk1 hs1; have H1 := Lib.hid (And.intro hb1 (And.intro hk1 hs1)); clear hb1 hk1 hs1)
    go_ret
    obtain ⟨h1, h2, h3⟩ := H1.out
    refine ⟨_, rfl, by simpa using h1, ((Keep.refl [] w).alloc _).trans (by simpa [blk] using h2), fun k hk => ?_⟩
    rcases h3 k hk with h4 | h4
    · simp [blk] at h4
    · simp at h4; omega

end Go.Proofs.Ytgeakpeaohggoaa

/- Devices: a disk of no bytes; new devices without a disk. -/
namespace Go.Proofs.Ytgeakpeaohggoaa
open Go.RowKit Go.Mum
set_option linter.unusedVariables false
set_option linter.unusedSimpArgs false
set_option maxRecDepth 100000

theorem laid_nil (w : World) : Calls Try.prog 36 #[.slice none 0 0] w fun e w' => e = .returned (.agg #[.slice none 0 0, .int .u32 0, .int .u32 0, .int .u32 0, .int .u32 0, .int .u32 0, .int .u32 0]) ∧ Keep [] w w' := by
  go_enter Try.func36, Try.ntmps36
  have z : Keep [] w (w.alloc (.cells #[.slice none 0 0, .int .u32 0, .int .u32 0, .int .u32 0, .int .u32 0, .int .u32 0, .int .u32 0] 72)) := (Keep.refl _ _).alloc _
  go_wp2
  refine wp_loop_rounds 1 ?_
  rw [rounds_succ]
  go_wp2
  refine bodyPost_ret (results_cell_row rfl _ _ w.heap.size _ _ _ _ rfl (heap_alloc_other _ (heap_alloc_at _ rfl)) Try.underlying72 rfl (by kernel_rfl)) rfl ?_
  exact ⟨rfl, (((Keep.refl _ _).alloc _).alloc _)⟩

/-- New devices. -/
def newS (L : List Ev) : DS := ⟨0, 0, [], [], 0, 0, 0, 0, 0, 0, L, []⟩

theorem mayB_iff (e : Ev) : mayB e = true ↔ e.May := by
  unfold mayB Ev.May
  simp [and_assoc]

theorem newS_ok {L : List Ev} (hL : ∀ e ∈ L, e.May ∧ e.Ok) (hn : L.length ≤ 64) : (newS L).Ok := by
  have hb : IsBytes [] := fun x hx => by cases hx
  refine ⟨?_, ?_, ⟨hb, ?_⟩, ⟨hb, ?_, rfl⟩, ?_, ?_, ?_, ?_, ?_, ?_, ⟨hL, hn⟩, ⟨hb, ?_⟩⟩ <;> simp [newS]

theorem evsC_get {L : List Ev} : ∀ {k : Nat} {e : Ev}, L[k]? = some e → (evsC L)[k * 3]? = some (.int .i64 e.at') ∧ (evsC L)[k * 3 + 1]? = some (.int .i64 e.kd) ∧ (evsC L)[k * 3 + 2]? = some (.int .u8 e.by') := by
  induction L with
  | nil => intro k e h; simp at h
  | cons x r ih =>
    intro k e h
    cases k with
    | zero => simp at h; subst h; simp [evsC, evC]
    | succ k =>
      simp at h
      obtain ⟨h1, h2, h3⟩ := ih h
      have ev : evsC (x :: r) = .int .i64 x.at' :: .int .i64 x.kd :: .int .u8 x.by' :: evsC r := rfl
      rw [ev, show (k + 1) * 3 = k * 3 + 1 + 1 + 1 by omega]
      exact ⟨by simpa using h1, by simpa using h2, by simpa using h3⟩

set_option maxHeartbeats 1000000 in
theorem new_yes {w : World} {a : Option Addr} {c : Nat} {L : List Ev} (h : Rd w 3 a L.length c (evsC L)) (hok : ∀ e ∈ L, e.Ok) (hn : L.length ≤ 64) (hm : ∀ e ∈ L, mayB e = true) :
    Calls Try.prog 11 #[.slice a L.length c, .slice none 0 0] w fun e w' => ∃ b F, e = .returned (.tuple #[.pointer (some ⟨b, 0, none⟩), .int .i64 0]) ∧ DvAt w' b F (newS L) ∧ Keep [] w w' ∧ ∀ k ∈ F, w.heap.size ≤ k := by
  have hOK := newS_ok (fun e he => ⟨(mayB_iff e).1 (hm e he), hok e he⟩) hn
  obtain ⟨n, hnl⟩ : ∃ n, n = L.length := ⟨_, rfl⟩
  rw [← hnl] at h hn ⊢
  have t1 : decide ((64 : Int) < (n : Int)) = false := decide_eq_false (by omega)
  have H := Lib.hid h
  have hM := Lib.hid hm
  have HNL := Lib.hid hnl
  clear hm hok h hnl
  go_enter Try.func11, Try.ntmps11
  go_wp2
  go_loopw [7, 18, 19, 20, 21, 22, 23, 24, 25] (fun _ i _ _ _ _ _ _ _ wr => ∃ k : Nat, k ≤ n ∧ i = .int .i64 k ∧ Keep [] w wr) (fun _ i _ _ _ _ _ _ _ _ => n - (intOf i).toNat)
  case atStart => exact ⟨0, by omega, rfl, Keep.refl _ _⟩
  case round =>
    obtain ⟨k, hk, rfl, hK⟩ := hrel
    by_cases hkn : k < n
    · have hkL : k < L.length := by rw [← HNL.out]; exact hkn
      obtain ⟨e, he⟩ : ∃ e, L[k]? = some e := ⟨L[k], by simp⟩
      have hme := hM.out e (List.mem_of_getElem? he)
      obtain ⟨g1, g2, g3⟩ := evsC_get he
      obtain ⟨h0, _⟩ | ⟨b, off, rfl, hc⟩ := H.out.at'.imp (fun h => And.intro h trivial) id
      · omega
      have c0 := hK.cell (hc _ _ g1) (by simp)
      have c1 : wr.cell? ⟨b, off + k * 3 + 1, none⟩ = some (.int .i64 e.kd) := hK.cell (hc _ _ g2) (by simp)
      have c2 : wr.cell? ⟨b, off + k * 3 + 2, none⟩ = some (.int .u8 e.by') := hK.cell (hc _ _ g3) (by simp)
      have fz : ∀ cs t i, (wr.alloc (.cells cs t)).frozen? ⟨wr.heap.size, i, none⟩ = false := fun cs t i => frozen_of (heap_alloc_at _ rfl) i
      have t2 : decide ((k : Int) < (n : Int)) = true := decide_eq_true (by omega)
      have HK := Lib.hid hK
      have w1 : IntKind.i64.wrap ((k : Int) + 1) = (k : Int) + 1 := by rw [IntKind.wrap_i64]; omega
      clear hK g1 g2 g3 hc hkL he
      go_wp2_with (go_at_call 34; refine (may_at _ e).mono ?_; rintro r w2 ⟨rfl, hk2⟩; rw [hme]; have H2 := Lib.hid hk2; clear hk2)
      go_roundw
      case rel => exact ⟨k + 1, by omega, by go_num, (HK.out.alloc _).trans H2.out⟩
      case measure => simp [intOf]; omega
    · obtain rfl : k = n := by omega
      have t2 : decide ((k : Int) < (k : Int)) = false := decide_eq_false (by omega)
      have HK := Lib.hid hK
      clear hK
      go_wp2_with (first | (go_at_call 35; refine (cloneE_at (H.out.keep0 HK.out) (by omega)).mono ?_; rintro e w2 ⟨v, rfl, hb, hk2, hs⟩; obtain ⟨va, vc, rfl, _, _⟩ := hb.shape; have H2 := Lib.hid (And.intro hb (And.intro hk2 hs)); clear hb hk2 hs) | (go_at_call 36; refine (laid_nil _).mono ?_; rintro e w3 ⟨rfl, hk3⟩; have H3 := Lib.hid hk3; clear hk3))
      go_ret2
      obtain ⟨hb, hk2, hs⟩ := H2.out
      have hk3 := H3.out
      have hkL := HNL.out
      have hbn : w3.heap.size ∉ blk (.slice va k vc) := fun hm => by have := hb.lt _ hm; have := hk3.size; omega
      refine ⟨w3.heap.size, _, rfl, ⟨hOK, .slice none 0 0, .slice none 0 0, .slice va k vc, .slice none 0 0, ⟨heap_alloc_at _ rfl, Buf.nil _ _ _, (by have h := Buf.nil (w3.alloc (.cells (dvC (newS L) (.slice none 0 0) (.slice none 0 0) (.slice va k vc) (.slice none 0 0)) 74)) 113 64; simpa [newS, u8s, dvC] using h), ?_, Buf.nil _ _ _, ?_⟩, rfl⟩, ((HK.out.trans hk2).trans hk3).alloc _, ?_⟩
      · have := (hb.keep0 hk3).keep0 ((Keep.refl [] w3).alloc (.cells (dvC (newS L) (.slice none 0 0) (.slice none 0 0) (.slice va k vc) (.slice none 0 0)) 74))
        rw [show (newS L).script.length = k from hkL.symm]
        exact this
      · simp only [Aps, List.pairwise_cons]
        refine ⟨?_, ?_, ?_, ?_, ?_, List.Pairwise.nil⟩
        · intro a' ha' j hj hm
          simp at hj; subst hj
          simp only [List.mem_cons, List.not_mem_nil, or_false] at ha'
          rcases ha' with rfl | rfl | rfl | rfl
          · simp [blk] at hm
          · simp [blk] at hm
          · exact hbn hm
          · simp [blk] at hm
        · intro a' _ j hj; simp [blk] at hj
        · intro a' _ j hj; simp [blk] at hj
        · intro a' ha' j _ hm; simp only [List.mem_cons, List.not_mem_nil, or_false] at ha'; subst ha'; simp [blk] at hm
        · intro a' ha'; simp at ha'
      · intro j hj
        have h1 := HK.out.size
        have h2 := hk2.size
        have h3 := hk3.size
        simp only [List.mem_cons, List.mem_append] at hj
        rcases hj with rfl | ((hj | hj) | hj) | hj
        · omega
        · simp [blk] at hj
        · simp [blk] at hj
        · have := hs j hj; omega
        · simp [blk] at hj

end Go.Proofs.Ytgeakpeaohggoaa

/- Devices: the law's own devices work. -/
namespace Go.Proofs.Ytgeakpeaohggoaa
open Go.RowKit Go.Mum
set_option linter.unusedVariables false
set_option linter.unusedSimpArgs false
set_option maxRecDepth 100000

def evW : Ev := ⟨3, 1, 65⟩
theorem comeW0 : comeK (newS [evW]) (cntD 2 [evW]) = newS [evW] := rfl
theorem cntW0 : cntD 2 [evW] = 0 := by decide
theorem cntW1 : cntD 3 [evW] = 1 := by decide
theorem inW : inS (comeK (newS [evW]) (cntD 3 [evW])) 0 = 65 := by decide

set_option maxHeartbeats 1000000 in
theorem works_at (w : World) : Calls Try.prog 15 #[] w fun e w' => e = .returned (.bool true) ∧ Keep [] w w' := by
  have RD : Rd (w.alloc (.cells #[.int .i64 3, .int .i64 1, .int .u8 65] 25)) 3 (some ⟨w.heap.size, 0, none⟩) 1 1 (evsC [evW]) :=
    ⟨rfl, by simp [evsC, evC, evW, Value.oneCell'], ⟨Nat.le_refl _, by unfold maxLen; omega⟩, by simp, .inr ⟨w.heap.size, 0, rfl, fun j u hu => by
      rw [Nat.zero_add]
      exact cell_of (heap_alloc_at _ rfl) j (by simpa [evsC, evC, evW] using hu)⟩⟩
  have N1 := Lib.hid (new_yes (L := [evW]) RD (by simp [Ev.Ok, evW]) (by simp) (by simp [mayB, evW]))
  clear RD
  go_enter Try.func15, Try.ntmps15
  go_wp2_with (first
    | (go_at_call 11; refine N1.out.mono ?_; rintro e w1 ⟨b, F, rfl, hd, hk, hf⟩; have HD1 := Lib.hid hd; have HK1 := Lib.hid (And.intro hk hf); clear hd hk hf)
    | (go_at_call 12; refine (come_nil HD1.out 2 (by omega)).mono ?_; rintro e w2 ⟨v, rfl, hb, hbk, F2, hd2, hk2, hf2, hn2⟩; change Buf _ _ _ _ (cntD 2 [evW]) _ at hb; change DvAt _ _ _ (comeK (newS [evW]) (cntD 2 [evW])) at hd2; rw [comeW0] at hd2; rw [cntW0] at hb; obtain ⟨va, vc, rfl, _, _⟩ := hb.shape; have HD2 := Lib.hid hd2; have HK2 := Lib.hid (And.intro hk2 hf2); clear HD1 hb hbk hd2 hk2 hf2 hn2)
    | (go_at_call 12; refine (come_nil HD2.out 3 (by omega)).mono ?_; rintro e w3 ⟨v, rfl, hb, hbk, F3, hd3, hk3, hf3, hn3⟩; change Buf _ _ _ _ (cntD 3 [evW]) _ at hb; change DvAt _ _ _ (comeK (newS [evW]) (cntD 3 [evW])) at hd3; rw [cntW1] at hb; obtain ⟨vb, vd, rfl, _, _⟩ := hb.shape; have HD3 := Lib.hid hd3; have HK3 := Lib.hid (And.intro hk3 hf3); clear HD2 hb hbk hd3 hk3 hf3 hn3)
    | (go_at_call 14; refine (dread_at HD3.out 0).mono ?_; rintro e w4 ⟨rfl, F4, hd4, hk4, hf4⟩; rw [inW]; have HK4 := Lib.hid hk4; clear hd4 hk4 hf4))
  go_ret
  obtain ⟨k1, f1⟩ := HK1.out
  obtain ⟨k2, f2⟩ := HK2.out
  obtain ⟨k3, f3⟩ := HK3.out
  have k4 := HK4.out
  have a1 : Keep [] w w1 := ((Keep.refl [] w).alloc _).trans k1
  have s1 := a1.size
  have g1 : ∀ k ∈ F, w.heap.size ≤ k := fun k hk => by have := f1 k hk; simp at this; omega
  have a2 : Keep [] w w2 := a1.then k2 (fun k hk hlt => by have := g1 k hk; omega)
  have s2 := a2.size
  have g2 : ∀ k ∈ F2, w.heap.size ≤ k := fun k hk => (f2 k hk).elim (g1 k) (fun h => by omega)
  have a3 : Keep [] w w3 := a2.then k3 (fun k hk hlt => by have := g2 k hk; omega)
  have g3 : ∀ k ∈ F3, w.heap.size ≤ k := fun k hk => (f3 k hk).elim (g2 k) (fun h => by omega)
  exact ⟨rfl, a3.then k4 (fun k hk hlt => by have := g3 k hk; omega)⟩

end Go.Proofs.Ytgeakpeaohggoaa
