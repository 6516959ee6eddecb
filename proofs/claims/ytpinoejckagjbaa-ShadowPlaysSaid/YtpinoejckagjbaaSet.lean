/- A map from int to true, as a list of its keys. -/
import Derived.Test.YtpinoejckagjbaaLib
import Derived.MapKept
import Derived.Carry
namespace Go.Mum
open Go.RowKit Go.MapKept

/-- Block m is a map whose keys are 's', each leading to true. -/
def SetAt (w : World) (m : Nat) (s : List Int) : Prop :=
  ∃ es clock, w.heap[m]? = some (.map es clock) ∧ es.toList.map (·.key) = s.map (Value.int .i64) ∧ (∀ e ∈ es.toList, e.val = .bool true) ∧ s.Nodup

theorem SetAt.lt {w : World} {m : Nat} {s : List Int} (h : SetAt w m s) : m < w.heap.size := by
  obtain ⟨es, clock, hb, _⟩ := h
  exact lt_of_heap hb

theorem SetAt.same {w x : World} {m : Nat} {s : List Int} (h : SetAt w m s) (he : x.heap[m]? = w.heap[m]?) : SetAt x m s := by
  obtain ⟨es, clock, hb, r⟩ := h
  exact ⟨es, clock, by rw [he]; exact hb, r⟩

theorem SetAt.keep {l : List Nat} {w x : World} {m : Nat} {s : List Int} (h : SetAt w m s) (hk : Keep l w x) (hn : m ∉ l) : SetAt x m s :=
  h.same (hk.block m h.lt hn)

theorem setNodup {w : World} {m : Nat} {s : List Int} (h : SetAt w m s) : s.Nodup := by obtain ⟨_, _, _, _, _, h⟩ := h; exact h

theorem setAt_made (w : World) : SetAt (w.alloc (.map #[] 0)) w.heap.size [] :=
  ⟨#[], 0, heap_alloc_same w _, rfl, by simp, List.nodup_nil⟩

theorem int_inj : Function.Injective (Value.int .i64) := fun a b h => by simpa using h

theorem map_eraseIdx' {α β : Type} (f : α → β) : ∀ (l : List α) (j : Nat), (l.eraseIdx j).map f = (l.map f).eraseIdx j
  | [], _ => rfl
  | _ :: _, 0 => rfl
  | a :: l, j + 1 => by simp [map_eraseIdx' f l j]

theorem filter_ne_eraseIdx : ∀ (s : List Int) (j : Nat) (k : Int), s.Nodup → s[j]? = some k → s.filter (· ≠ k) = s.eraseIdx j
  | [], _, _, _, h => by simp at h
  | a :: s, 0, k, hn, h => by
    obtain rfl : a = k := by simpa using h
    rw [List.nodup_cons] at hn
    simp only [List.eraseIdx_cons_zero, ne_eq, not_true_eq_false, decide_false, Bool.false_eq_true, not_false_eq_true, List.filter_cons_of_neg]
    rw [List.filter_eq_self]
    intro b hb
    simp only [decide_not, Bool.not_eq_eq_eq_not, Bool.not_true, decide_eq_false_iff_not]
    exact fun e => hn.1 (e ▸ hb)
  | a :: s, j + 1, k, hn, h => by
    rw [List.nodup_cons] at hn
    have hk : s[j]? = some k := by simpa using h
    have hne : a ≠ k := fun e => hn.1 (e ▸ List.mem_of_getElem? hk)
    simp only [List.eraseIdx_cons_succ]
    rw [List.filter_cons_of_pos (by simpa using hne), filter_ne_eraseIdx s j k hn.2 hk]

theorem keys_ok {es : Array MapEntry} {s : List Int} (hks : es.toList.map (·.key) = s.map (Value.int .i64)) : ∀ x ∈ es.toList, IsKey (.int .i64) x.key := by
  intro x hx
  have : x.key ∈ es.toList.map (·.key) := List.mem_map.2 ⟨x, hx, rfl⟩
  rw [hks] at this
  obtain ⟨k, _, e⟩ := List.mem_map.1 this
  rw [← e]; simp [IsKey]

theorem mem_of_key {es : Array MapEntry} {s : List Int} (hks : es.toList.map (·.key) = s.map (Value.int .i64)) (k : Int) : k ∈ s ↔ ∃ x ∈ es.toList, x.key = .int .i64 k := by
  rw [show (∃ x ∈ es.toList, x.key = .int .i64 k) ↔ Value.int .i64 k ∈ es.toList.map (·.key) by simp [List.mem_map], hks]
  simp [List.mem_map]

section
variable {P : Program} {t kt et : TypeId} (hm : P.underlying t = some (.map kt et)) (hk : P.underlying kt = some (.int .i64))
include hm hk

theorem set_lookup (hz : ∀ w, (zeroValue et).run P w = .ok (.bool false) w) {w : World} {m : Nat} {s : List Int} (h : SetAt w m s) (k : Int) :
    (Instr.lookup t (.map (some m)) (.int .i64 k) false).run P w = .ok (.bool (decide (k ∈ s))) w := by
  obtain ⟨es, clock, hb, hks, hv, hn⟩ := h
  have hkk : IsKey (.int .i64) (.int .i64 k) := by simp [IsKey]
  rcases findNow_spec hkk es.toList 0 (keys_ok hks) with ⟨h1, h2⟩ | ⟨j, e, h1, h2, h3⟩
  · have : ¬ k ∈ s := fun hin => by
      obtain ⟨x, hx, hxk⟩ := (mem_of_key hks k).1 hin
      exact h2 x hx hxk
    simp [Instr.lookup, run_underlying hm, MapKept.run_getObj_map hb, run_checkKey hk hkk, run_findKey hk h1, Result.andThen, hz, this]
  · have hin : k ∈ s := (mem_of_key hks k).2 ⟨e, List.mem_of_getElem? h2, h3⟩
    have hev : e.val = .bool true := hv e (List.mem_of_getElem? h2)
    simp [Instr.lookup, run_underlying hm, MapKept.run_getObj_map hb, run_checkKey hk hkk, run_findKey hk h1, Result.andThen, hin, hev]

theorem set_lookup_nil (hz : ∀ w, (zeroValue et).run P w = .ok (.bool false) w) (w : World) (k : Int) :
    (Instr.lookup t (.map none) (.int .i64 k) false).run P w = .ok (.bool false) w := by
  have hkk : IsKey (.int .i64) (.int .i64 k) := by simp [IsKey]
  have h1 : Instr.findNow (.int .i64) (.int .i64 k) [] 0 = some none := rfl
  simp [Instr.lookup, run_underlying hm, run_checkKey hk hkk, run_findKey hk h1, Result.andThen, hz]

theorem set_update {w : World} {m : Nat} {s : List Int} (h : SetAt w m s) (k : Int) :
    ∃ x, (Instr.mapUpdate t (.map (some m)) (.int .i64 k) (.bool true)).run P w = .ok () x ∧ SetAt x m (if k ∈ s then s else s ++ [k]) ∧ Keep [m] w x := by
  obtain ⟨es, clock, hb, hks, hv, hn⟩ := h
  have hkk : IsKey (.int .i64) (.int .i64 k) := by simp [IsKey]
  have keep : ∀ o : Obj, Keep [m] w { w with heap := w.heap.setIfInBounds m o } := fun o =>
    ⟨rfl, rfl, rfl, by simp, fun r _ hr => (heap_set (o' := o) hb).2 r (by simpa using hr)⟩
  rcases findNow_spec hkk es.toList 0 (keys_ok hks) with ⟨h1, h2⟩ | ⟨j, e, h1, h2, h3⟩
  · have hno : ¬ k ∈ s := fun hin => by
      obtain ⟨x, hx, hxk⟩ := (mem_of_key hks k).1 hin
      exact h2 x hx hxk
    refine ⟨_, by simp [Instr.mapUpdate, run_underlying hm, MapKept.run_getObj_map hb, run_checkKey hk hkk, run_findKey hk h1, MapKept.run_setObj_map _ hb, Result.andThen]; rfl, ?_, keep _⟩
    rw [if_neg hno]
    refine ⟨_, _, (heap_set hb).1, by simp [hks], ?_, ?_⟩
    · intro x hx
      simp only [Array.toList_push, List.mem_append, List.mem_singleton] at hx
      rcases hx with hx | rfl
      · exact hv x hx
      · rfl
    · rw [List.nodup_append]; exact ⟨hn, by simp, by simp; exact fun a ha e => hno (e ▸ ha)⟩
  · have hin : k ∈ s := (mem_of_key hks k).2 ⟨e, List.mem_of_getElem? h2, h3⟩
    have hj : es[j]? = some e := by simpa using h2
    refine ⟨_, by simp [Instr.mapUpdate, run_underlying hm, MapKept.run_getObj_map hb, run_checkKey hk hkk, run_findKey hk h1, hj, h3, run_keyThatStays hkk, MapKept.run_setObj_map _ hb, Result.andThen]; rfl, ?_, keep _⟩
    rw [if_pos hin]
    refine ⟨_, _, (heap_set hb).1, ?_, ?_, hn⟩
    · rw [modify_keys _ _ (fun e' he' => by rw [hj] at he'; cases he'; exact h3.symm), hks]
    · intro x hx
      obtain ⟨i, hi⟩ := List.getElem?_of_mem hx
      simp only [Array.getElem?_toList, Array.getElem?_modify] at hi
      split at hi
      · cases hq : es[i]? <;> simp [hq] at hi
        rw [← hi]
      · exact hv x (by simpa using Array.mem_of_getElem? hi)

theorem set_delete {ty : TypeId} {w : World} {m : Nat} {s : List Int} (h : SetAt w m s) (k : Int) :
    ∃ x, (Builtin.delete_ #[t, kt] ty #[.map (some m), .int .i64 k]).run P w = .ok (.tuple #[]) x ∧ SetAt x m (s.filter (· ≠ k)) ∧ Keep [m] w x := by
  obtain ⟨es, clock, hb, hks, hv, hn⟩ := h
  have hkk : IsKey (.int .i64) (.int .i64 k) := by simp [IsKey]
  have keep : ∀ o : Obj, Keep [m] w { w with heap := w.heap.setIfInBounds m o } := fun o =>
    ⟨rfl, rfl, rfl, by simp, fun r _ hr => (heap_set (o' := o) hb).2 r (by simpa using hr)⟩
  rcases findNow_spec hkk es.toList 0 (keys_ok hks) with ⟨h1, h2⟩ | ⟨j, e, h1, h2, h3⟩
  · have hno : ¬ k ∈ s := fun hin => by
      obtain ⟨x, hx, hxk⟩ := (mem_of_key hks k).1 hin
      exact h2 x hx hxk
    refine ⟨_, by simp [Builtin.delete_, run_underlying hm, MapKept.run_getObj_map hb, run_checkKey hk hkk, run_findKey hk h1, MapKept.run_setObj_map _ hb, Result.andThen]; rfl, ?_, keep _⟩
    have e : s.filter (· ≠ k) = s := by
      rw [List.filter_eq_self]; intro a ha; simp; exact fun e => hno (e ▸ ha)
    rw [e]
    exact ⟨_, _, (heap_set hb).1, hks, hv, hn⟩
  · refine ⟨_, by simp [Builtin.delete_, run_underlying hm, MapKept.run_getObj_map hb, run_checkKey hk hkk, run_findKey hk h1, MapKept.run_setObj_map _ hb, Result.andThen]; rfl, ?_, keep _⟩
    have hj : j < es.size := by have := List.getElem?_eq_some_iff.1 h2; obtain ⟨h, _⟩ := this; simpa using h
    have hl : (es.eraseIdxIfInBounds j).toList = es.toList.eraseIdx j := by
      unfold Array.eraseIdxIfInBounds; rw [dif_pos hj]; simp
    have hsj : s[j]? = some k := by
      have := congrArg (fun l => l[j]?) hks
      simp only [List.getElem?_map, h2, Option.map_some] at this
      cases hq : s[j]? with
      | none => simp [hq] at this
      | some q => simp [hq, h3] at this; rw [this]
    refine ⟨_, _, (heap_set hb).1, ?_, ?_, hn.filter _⟩
    · rw [hl, map_eraseIdx', hks, filter_ne_eraseIdx s j k hn hsj, map_eraseIdx']
    · intro x hx
      rw [hl] at hx
      exact hv x ((List.eraseIdx_sublist _ _).subset hx)

omit hk in
theorem set_clear {ty : TypeId} {w : World} {m : Nat} {s : List Int} (h : SetAt w m s) :
    ∃ x, (Builtin.clear_ #[t] ty #[.map (some m)]).run P w = .ok (.tuple #[]) x ∧ SetAt x m [] ∧ Keep [m] w x := by
  obtain ⟨es, clock, hb, hks, hv, hn⟩ := h
  have keep : ∀ o : Obj, Keep [m] w { w with heap := w.heap.setIfInBounds m o } := fun o =>
    ⟨rfl, rfl, rfl, by simp, fun r _ hr => (heap_set (o' := o) hb).2 r (by simpa using hr)⟩
  exact ⟨_, by simp [Builtin.clear_, run_underlying hm, MapKept.run_getObj_map hb, MapKept.run_setObj_map _ hb, Result.andThen]; rfl, ⟨_, _, (heap_set hb).1, rfl, by simp, List.nodup_nil⟩, keep _⟩

omit hk in
theorem set_len {ty : TypeId} {w : World} {m : Nat} {s : List Int} (h : SetAt w m s) : (Builtin.len_ #[t] ty #[.map (some m)]).run P w = .ok (.int .i64 s.length) w := by
  obtain ⟨es, clock, hb, hks, hv, hn⟩ := h
  have : es.size = s.length := by have := congrArg List.length hks; simpa using this
  simp [Builtin.len_, run_underlying hm, MapKept.run_getObj_map hb, Result.andThen, this, goInt]

end
end Go.Mum
