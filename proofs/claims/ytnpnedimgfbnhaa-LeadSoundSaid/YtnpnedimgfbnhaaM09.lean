/- Contracts of the functions that the law reaches, walked, and the plain laws on them (several texts in one). -/
import Derived.Outline
import Derived.MapKept
import Derived.Carry
import Derived.Test.YtnpnedimgfbnhaaM08
import Derived.Test.YtnpnedimgfbnhaaM01

/- Where accesses lead, as the document says; entries soiled. -/
namespace Go.Proofs.Ytnpnedimgfbnhaa
open Go.RowKit Go.Mum
set_option linter.unusedVariables false

theorem DMem.keep0 {w x : World} {s : Value} {n : Nat} {rd : Nat → Option Nat} (h : DMem w s n rd) (hk : Keep [] w x) : DMem x s n rd :=
  ⟨fun y hy => h.word y (hk.trans hy), fun y hy => h.byte y (hk.trans hy), h.lt, h.n512, h.isS⟩

set_option maxRecDepth 100000 in
set_option maxHeartbeats 4000000 in
theorem rto_at {w : World} {s : Value} {n : Nat} {rd : Nat → Option Nat} (h : DMem w s n rd) (root dirs ps va : Nat) (kind : Int) (hr : root < 4294967296) (hd : dirs ≤ 64) (hp : ps < 4294967296) (hv : va < 4294967296) (hk1 : -9223372036854775808 ≤ kind) (hk2 : kind ≤ 9223372036854775807) :
    Calls Try.prog 32 #[.agg #[s], .int .u32 root, .int .i64 dirs, .int .u32 ps, .int .u32 va, .int .i64 kind] w (ToPost (toF rd n root dirs ps va kind) w) := by
  obtain ⟨sa, sm, sc, rfl⟩ := h.isS
  have HM := Lib.hid h
  clear h
  generalize hq : toF rd n root dirs ps va kind = q
  by_cases hkb : kind < 1 ∨ 3 < kind
  · have hq0 : q = (0, false) := by
      rw [← hq]
      unfold toF
      by_cases h4 : ps / 4 % 2 = 0
      · rw [if_pos h4, if_pos (.inr hkb)]
      · rw [if_neg h4]
        cases lookF rd n root dirs va with
        | none => rfl
        | some l =>
          obtain ⟨b, a, e, d, t, p⟩ := l
          have hm : mayB b kind (ps % 2 == 1) = false := by
            unfold mayB
            have n3 : ¬ kind = 3 := by omega
            have n2 : ¬ kind = 2 := by omega
            have n1 : ¬ kind = 1 := by omega
            simp [n1, n2, n3]
          simp [hm]
    subst hq0
    clear hq
    have HK : Hid (∀ o, Keep [] w (w.alloc o)) := Lib.hid fun o => (Keep.refl _ _).alloc o
    rcases hkb with hk | hk
    · go_enter Try.func32, Try.ntmps32
      go_wp2_with fail
      go_ret2
      exact ⟨rfl, HK.out _⟩
    · have hk3 : ¬ (kind < 1) := by omega
      go_enter Try.func32, Try.ntmps32
      go_wp2_with fail
      go_ret2
      exact ⟨rfl, HK.out _⟩
  · unfold toF at hq
    have j1 : ¬ (kind < 1) := by omega
    have j3 : ¬ (3 < kind) := by omega
    by_cases h4 : ps / 4 % 2 = 0
    · rw [if_pos h4] at hq
      have H4 := has_at ps 4 hp (by omega) (by omega)
      rw [has0 h4] at H4
      have H4 := Lib.hid H4
      obtain ⟨zb, C⟩ := HM.out.byte (w.alloc (.cells #[.slice sa sm sc] 50)) ((Keep.refl _ _).alloc _) va hv
      by_cases hbig : 64 * n ≤ va
      · rw [if_pos (.inl hbig)] at hq
        subst hq
        rw [decide_eq_false (by omega)] at C
        have C := Lib.hid C
        clear hbig h4 hkb
        go_enter Try.func32, Try.ntmps32
        go_wp2_with fail
        refine (H4.out _).mono ?_
        rintro e z ⟨rfl, rfl⟩
        go_wp2_with fail
        refine C.out.mono ?_
        rintro e z ⟨rfl, hK⟩
        have HK := Lib.hid (((Keep.refl [] w).alloc _).trans hK)
        clear hK
        go_wp2_with fail
        go_ret2
        exact ⟨rfl, HK.out⟩
      · rw [if_neg (by omega)] at hq
        subst hq
        rw [decide_eq_true (by omega)] at C
        have C := Lib.hid C
        clear hbig h4 hkb
        go_enter Try.func32, Try.ntmps32
        go_wp2_with fail
        refine (H4.out _).mono ?_
        rintro e z ⟨rfl, rfl⟩
        go_wp2_with fail
        refine C.out.mono ?_
        rintro e z ⟨rfl, hK⟩
        have HK := Lib.hid (((Keep.refl [] w).alloc _).trans hK)
        clear hK
        go_wp2_with fail
        go_ret2
        exact ⟨rfl, HK.out⟩
    · rw [if_neg h4] at hq
      have H4 := has_at ps 4 hp (by omega) (by omega)
      rw [has1 h4] at H4
      have H4 := Lib.hid H4
      have C := Lib.hid (rlook_at (HM.out.keep0 ((Keep.refl [] w).alloc (.cells #[.slice sa sm sc] 50))) root dirs va hr hd hv)
      have hlt := HM.out.lt
      have HL := Lib.hid (fun b a e d t p (h : lookF rd n root dirs va = some (b, a, e, d, t, p)) => lookF_lt hlt h)
      clear h4 hlt hkb
      generalize lookF rd n root dirs va = l at hq C HL
      cases l with
      | none =>
        simp only at hq
        subst hq
        go_enter Try.func32, Try.ntmps32
        go_wp2_with fail
        refine (H4.out _).mono ?_
        rintro e z ⟨rfl, rfl⟩
        go_wp2_with fail
        refine C.out.mono ?_
        rintro e z ⟨rfl, hK⟩
        have HK := Lib.hid ((((Keep.refl [] w).alloc _).trans hK).alloc (.cells #[.int .u32 0, .int .u32 0, .int .u32 0, .int .i64 0, .int .i64 0, .int .i64 0] 97))
        simp only [wayV, Option.isSome_none]
        clear hK
        go_wp2_with fail
        go_quiet (fail)
        go_wp2_with fail
        go_ret2
        exact ⟨rfl, HK.out.drewN _⟩
      | some l =>
        obtain ⟨b, a, e, d, t, p⟩ := l
        obtain ⟨hb, ha, -⟩ := HL.out b a e d t p rfl
        simp only at hq
        have hu : hasB ps 1 = (ps % 2 == 1) := by
          unfold hasB
          rw [Bool.eq_iff_iff]; simp
        have H1 := Lib.hid (fun (z : World) => has_at ps 1 hp (by omega) (by omega) z)
        rw [hu] at H1
        have M := Lib.hid (fun (z : World) => rmay_at b (by omega) kind (ps % 2 == 1) hk1 hk2 z)
        generalize (ps % 2 == 1) = u at H1 M hq
        generalize mayB b kind u = ok at M hq
        have hqo : q = (if ok = true then (a, true) else (0, false)) := hq.symm
        clear hq HL hu
        cases ok with
        | true =>
          simp only [if_true] at hqo
          subst hqo
          go_enter Try.func32, Try.ntmps32
          go_wp2_with fail
          refine (H4.out _).mono ?_
          rintro e z ⟨rfl, rfl⟩
          go_wp2_with fail
          refine C.out.mono ?_
          rintro e z ⟨rfl, hK⟩
          have HK := Lib.hid ((((Keep.refl [] w).alloc _).trans hK).alloc (.cells #[.int .u32 b, .int .u32 a, .int .u32 e, .int .i64 d, .int .i64 t, .int .i64 p] 97))
          simp only [wayV, Option.isSome_some]
          clear hK
          go_wp2_with fail
          go_quiet (first | (go_at_call 34; exact quiet_same (H1.out _)) | (go_at_call 51; exact quiet_same (M.out _)))
          go_wp2_with fail
          go_ret2
          exact ⟨rfl, HK.out.drewN _⟩
        | false =>
          simp only [Bool.false_eq_true, if_false] at hqo
          subst hqo
          go_enter Try.func32, Try.ntmps32
          go_wp2_with fail
          refine (H4.out _).mono ?_
          rintro e z ⟨rfl, rfl⟩
          go_wp2_with fail
          refine C.out.mono ?_
          rintro e z ⟨rfl, hK⟩
          have HK := Lib.hid ((((Keep.refl [] w).alloc _).trans hK).alloc (.cells #[.int .u32 b, .int .u32 a, .int .u32 e, .int .i64 d, .int .i64 t, .int .i64 p] 97))
          simp only [wayV, Option.isSome_some]
          clear hK
          go_wp2_with fail
          go_quiet (first | (go_at_call 34; exact quiet_same (H1.out _)) | (go_at_call 51; exact quiet_same (M.out _)))
          go_wp2_with fail
          go_ret2
          exact ⟨rfl, HK.out.drewN _⟩
end Go.Proofs.Ytnpnedimgfbnhaa

/- A map from int to true, as a list of its keys. -/
namespace Go.Mum
open Go.RowKit Go.MapKept

/-- Block m is a map whose keys are 's', each leading to true. -/
def SetAt (w : World) (m : Nat) (s : List Int) : Prop :=
  ∃ es clock, w.heap[m]? = some (.map es clock) ∧ es.toList.map (·.key) = s.map (Value.int .i64) ∧ (∀ e ∈ es.toList, e.val = .bool true) ∧ s.Nodup

theorem SetAt.lt {w : World} {m : Nat} {s : List Int} (h : SetAt w m s) : m < w.heap.size := by
  obtain ⟨es, clock, hb, _⟩ := h
  exact lt_of_heap hb

theorem SetAt.same {w x : World} {m : Nat} {s : List Int} (h : SetAt w m s) (he : x.heap[m]? = w.heap[m]?) : SetAt x m s := by
  obtain ⟨es, clock, hb, r⟩ := h
  exact ⟨es, clock, by rw [he]; exact hb, r⟩

theorem SetAt.keep {l : List Nat} {w x : World} {m : Nat} {s : List Int} (h : SetAt w m s) (hk : Keep l w x) (hn : m ∉ l) : SetAt x m s :=
  h.same (hk.block m h.lt hn)

theorem setNodup {w : World} {m : Nat} {s : List Int} (h : SetAt w m s) : s.Nodup := by obtain ⟨_, _, _, _, _, h⟩ := h; exact h

theorem setAt_made (w : World) : SetAt (w.alloc (.map #[] 0)) w.heap.size [] :=
  ⟨#[], 0, heap_alloc_same w _, rfl, by simp, List.nodup_nil⟩

theorem int_inj : Function.Injective (Value.int .i64) := fun a b h => by simpa using h

theorem map_eraseIdx' {α β : Type} (f : α → β) : ∀ (l : List α) (j : Nat), (l.eraseIdx j).map f = (l.map f).eraseIdx j
  | [], _ => rfl
  | _ :: _, 0 => rfl
  | a :: l, j + 1 => by simp [map_eraseIdx' f l j]

theorem filter_ne_eraseIdx : ∀ (s : List Int) (j : Nat) (k : Int), s.Nodup → s[j]? = some k → s.filter (· ≠ k) = s.eraseIdx j
  | [], _, _, _, h => by simp at h
  | a :: s, 0, k, hn, h => by
    obtain rfl : a = k := by simpa using h
    rw [List.nodup_cons] at hn
    simp only [List.eraseIdx_cons_zero, ne_eq, not_true_eq_false, decide_false, Bool.false_eq_true, not_false_eq_true, List.filter_cons_of_neg]
    rw [List.filter_eq_self]
    intro b hb
    simp only [decide_not, Bool.not_eq_eq_eq_not, Bool.not_true, decide_eq_false_iff_not]
    exact fun e => hn.1 (e ▸ hb)
  | a :: s, j + 1, k, hn, h => by
    rw [List.nodup_cons] at hn
    have hk : s[j]? = some k := by simpa using h
    have hne : a ≠ k := fun e => hn.1 (e ▸ List.mem_of_getElem? hk)
    simp only [List.eraseIdx_cons_succ]
    rw [List.filter_cons_of_pos (by simpa using hne), filter_ne_eraseIdx s j k hn.2 hk]

theorem keys_ok {es : Array MapEntry} {s : List Int} (hks : es.toList.map (·.key) = s.map (Value.int .i64)) : ∀ x ∈ es.toList, IsKey (.int .i64) x.key := by
  intro x hx
  have : x.key ∈ es.toList.map (·.key) := List.mem_map.2 ⟨x, hx, rfl⟩
  rw [hks] at this
  obtain ⟨k, _, e⟩ := List.mem_map.1 this
  rw [← e]; simp [IsKey]

theorem mem_of_key {es : Array MapEntry} {s : List Int} (hks : es.toList.map (·.key) = s.map (Value.int .i64)) (k : Int) : k ∈ s ↔ ∃ x ∈ es.toList, x.key = .int .i64 k := by
  rw [show (∃ x ∈ es.toList, x.key = .int .i64 k) ↔ Value.int .i64 k ∈ es.toList.map (·.key) by simp [List.mem_map], hks]
  simp [List.mem_map]

section
variable {P : Program} {t kt et : TypeId} (hm : P.underlying t = some (.map kt et)) (hk : P.underlying kt = some (.int .i64))
include hm hk

theorem set_lookup (hz : ∀ w, (zeroValue et).run P w = .ok (.bool false) w) {w : World} {m : Nat} {s : List Int} (h : SetAt w m s) (k : Int) :
    (Instr.lookup t (.map (some m)) (.int .i64 k) false).run P w = .ok (.bool (decide (k ∈ s))) w := by
  obtain ⟨es, clock, hb, hks, hv, hn⟩ := h
  have hkk : IsKey (.int .i64) (.int .i64 k) := by simp [IsKey]
  rcases findNow_spec hkk es.toList 0 (keys_ok hks) with ⟨h1, h2⟩ | ⟨j, e, h1, h2, h3⟩
  · have : ¬ k ∈ s := fun hin => by
      obtain ⟨x, hx, hxk⟩ := (mem_of_key hks k).1 hin
      exact h2 x hx hxk
    simp [Instr.lookup, run_underlying hm, MapKept.run_getObj_map hb, run_checkKey hk hkk, run_findKey hk h1, Result.andThen, hz, this]
  · have hin : k ∈ s := (mem_of_key hks k).2 ⟨e, List.mem_of_getElem? h2, h3⟩
    have hev : e.val = .bool true := hv e (List.mem_of_getElem? h2)
    simp [Instr.lookup, run_underlying hm, MapKept.run_getObj_map hb, run_checkKey hk hkk, run_findKey hk h1, Result.andThen, hin, hev]

theorem set_lookup_nil (hz : ∀ w, (zeroValue et).run P w = .ok (.bool false) w) (w : World) (k : Int) :
    (Instr.lookup t (.map none) (.int .i64 k) false).run P w = .ok (.bool false) w := by
  have hkk : IsKey (.int .i64) (.int .i64 k) := by simp [IsKey]
  have h1 : Instr.findNow (.int .i64) (.int .i64 k) [] 0 = some none := rfl
  simp [Instr.lookup, run_underlying hm, run_checkKey hk hkk, run_findKey hk h1, Result.andThen, hz]

theorem set_update {w : World} {m : Nat} {s : List Int} (h : SetAt w m s) (k : Int) :
    ∃ x, (Instr.mapUpdate t (.map (some m)) (.int .i64 k) (.bool true)).run P w = .ok () x ∧ SetAt x m (if k ∈ s then s else s ++ [k]) ∧ Keep [m] w x := by
  obtain ⟨es, clock, hb, hks, hv, hn⟩ := h
  have hkk : IsKey (.int .i64) (.int .i64 k) := by simp [IsKey]
  have keep : ∀ o : Obj, Keep [m] w { w with heap := w.heap.setIfInBounds m o } := fun o =>
    ⟨rfl, rfl, rfl, by simp, fun r _ hr => (heap_set (o' := o) hb).2 r (by simpa using hr)⟩
  rcases findNow_spec hkk es.toList 0 (keys_ok hks) with ⟨h1, h2⟩ | ⟨j, e, h1, h2, h3⟩
  · have hno : ¬ k ∈ s := fun hin => by
      obtain ⟨x, hx, hxk⟩ := (mem_of_key hks k).1 hin
      exact h2 x hx hxk
    refine ⟨_, by simp [Instr.mapUpdate, run_underlying hm, MapKept.run_getObj_map hb, run_checkKey hk hkk, run_findKey hk h1, MapKept.run_setObj_map _ hb, Result.andThen]; rfl, ?_, keep _⟩
    rw [if_neg hno]
    refine ⟨_, _, (heap_set hb).1, by simp [hks], ?_, ?_⟩
    · intro x hx
      simp only [Array.toList_push, List.mem_append, List.mem_singleton] at hx
      rcases hx with hx | rfl
      · exact hv x hx
      · rfl
    · rw [List.nodup_append]; exact ⟨hn, by simp, by simp; exact fun a ha e => hno (e ▸ ha)⟩
  · have hin : k ∈ s := (mem_of_key hks k).2 ⟨e, List.mem_of_getElem? h2, h3⟩
    have hj : es[j]? = some e := by simpa using h2
    refine ⟨_, by simp [Instr.mapUpdate, run_underlying hm, MapKept.run_getObj_map hb, run_checkKey hk hkk, run_findKey hk h1, hj, h3, run_keyThatStays hkk, MapKept.run_setObj_map _ hb, Result.andThen]; rfl, ?_, keep _⟩
    rw [if_pos hin]
    refine ⟨_, _, (heap_set hb).1, ?_, ?_, hn⟩
    · rw [modify_keys _ _ (fun e' he' => by rw [hj] at he'; cases he'; exact h3.symm), hks]
    · intro x hx
      obtain ⟨i, hi⟩ := List.getElem?_of_mem hx
      simp only [Array.getElem?_toList, Array.getElem?_modify] at hi
      split at hi
      · cases hq : es[i]? <;> simp [hq] at hi
        rw [← hi]
      · exact hv x (by simpa using Array.mem_of_getElem? hi)

theorem set_delete {ty : TypeId} {w : World} {m : Nat} {s : List Int} (h : SetAt w m s) (k : Int) :
    ∃ x, (Builtin.delete_ #[t, kt] ty #[.map (some m), .int .i64 k]).run P w = .ok (.tuple #[]) x ∧ SetAt x m (s.filter (· ≠ k)) ∧ Keep [m] w x := by
  obtain ⟨es, clock, hb, hks, hv, hn⟩ := h
  have hkk : IsKey (.int .i64) (.int .i64 k) := by simp [IsKey]
  have keep : ∀ o : Obj, Keep [m] w { w with heap := w.heap.setIfInBounds m o } := fun o =>
    ⟨rfl, rfl, rfl, by simp, fun r _ hr => (heap_set (o' := o) hb).2 r (by simpa using hr)⟩
  rcases findNow_spec hkk es.toList 0 (keys_ok hks) with ⟨h1, h2⟩ | ⟨j, e, h1, h2, h3⟩
  · have hno : ¬ k ∈ s := fun hin => by
      obtain ⟨x, hx, hxk⟩ := (mem_of_key hks k).1 hin
      exact h2 x hx hxk
    refine ⟨_, by simp [Builtin.delete_, run_underlying hm, MapKept.run_getObj_map hb, run_checkKey hk hkk, run_findKey hk h1, MapKept.run_setObj_map _ hb, Result.andThen]; rfl, ?_, keep _⟩
    have e : s.filter (· ≠ k) = s := by
      rw [List.filter_eq_self]; intro a ha; simp; exact fun e => hno (e ▸ ha)
    rw [e]
    exact ⟨_, _, (heap_set hb).1, hks, hv, hn⟩
  · refine ⟨_, by simp [Builtin.delete_, run_underlying hm, MapKept.run_getObj_map hb, run_checkKey hk hkk, run_findKey hk h1, MapKept.run_setObj_map _ hb, Result.andThen]; rfl, ?_, keep _⟩
    have hj : j < es.size := by have := List.getElem?_eq_some_iff.1 h2; obtain ⟨h, _⟩ := this; simpa using h
    have hl : (es.eraseIdxIfInBounds j).toList = es.toList.eraseIdx j := by
      unfold Array.eraseIdxIfInBounds; rw [dif_pos hj]; simp
    have hsj : s[j]? = some k := by
      have := congrArg (fun l => l[j]?) hks
      simp only [List.getElem?_map, h2, Option.map_some] at this
      cases hq : s[j]? with
      | none => simp [hq] at this
      | some q => simp [hq, h3] at this; rw [this]
    refine ⟨_, _, (heap_set hb).1, ?_, ?_, hn.filter _⟩
    · rw [hl, map_eraseIdx', hks, filter_ne_eraseIdx s j k hn hsj, map_eraseIdx']
    · intro x hx
      rw [hl] at hx
      exact hv x ((List.eraseIdx_sublist _ _).subset hx)

omit hk in
theorem set_clear {ty : TypeId} {w : World} {m : Nat} {s : List Int} (h : SetAt w m s) :
    ∃ x, (Builtin.clear_ #[t] ty #[.map (some m)]).run P w = .ok (.tuple #[]) x ∧ SetAt x m [] ∧ Keep [m] w x := by
  obtain ⟨es, clock, hb, hks, hv, hn⟩ := h
  have keep : ∀ o : Obj, Keep [m] w { w with heap := w.heap.setIfInBounds m o } := fun o =>
    ⟨rfl, rfl, rfl, by simp, fun r _ hr => (heap_set (o' := o) hb).2 r (by simpa using hr)⟩
  exact ⟨_, by simp [Builtin.clear_, run_underlying hm, MapKept.run_getObj_map hb, MapKept.run_setObj_map _ hb, Result.andThen]; rfl, ⟨_, _, (heap_set hb).1, rfl, by simp, List.nodup_nil⟩, keep _⟩

omit hk in
theorem set_len {ty : TypeId} {w : World} {m : Nat} {s : List Int} (h : SetAt w m s) : (Builtin.len_ #[t] ty #[.map (some m)]).run P w = .ok (.int .i64 s.length) w := by
  obtain ⟨es, clock, hb, hks, hv, hn⟩ := h
  have : es.size = s.length := by have := congrArg List.length hks; simpa using this
  simp [Builtin.len_, run_underlying hm, MapKept.run_getObj_map hb, Result.andThen, this, goInt]

end
end Go.Mum
