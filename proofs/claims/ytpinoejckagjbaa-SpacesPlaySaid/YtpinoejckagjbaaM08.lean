/- Contracts of the functions that the law reaches, walked, and the plain laws on them (several texts in one). -/
import Derived.MapKept
import Derived.Carry
import Derived.Test.YtpinoejckagjbaaRows
import Derived.Deep.QuietTactic
import Derived.BigQuiet
import Derived.Test.YtpinoejckagjbaaM01

/- A map from int to true, as a list of its keys. -/
namespace Go.Mum
open Go.RowKit Go.MapKept

/-- Block m is a map whose keys are 's', each leading to true. -/
def SetAt (w : World) (m : Nat) (s : List Int) : Prop :=
  ∃ es clock, w.heap[m]? = some (.map es clock) ∧ es.toList.map (·.key) = s.map (Value.int .i64) ∧ (∀ e ∈ es.toList, e.val = .bool true) ∧ s.Nodup

theorem SetAt.lt {w : World} {m : Nat} {s : List Int} (h : SetAt w m s) : m < w.heap.size := by
  obtain ⟨es, clock, hb, _⟩ := h
  exact lt_of_heap hb

theorem SetAt.same {w x : World} {m : Nat} {s : List Int} (h : SetAt w m s) (he : x.heap[m]? = w.heap[m]?) : SetAt x m s := by
  obtain ⟨es, clock, hb, r⟩ := h
  exact ⟨es, clock, by rw [he]; exact hb, r⟩

theorem SetAt.keep {l : List Nat} {w x : World} {m : Nat} {s : List Int} (h : SetAt w m s) (hk : Keep l w x) (hn : m ∉ l) : SetAt x m s :=
  h.same (hk.block m h.lt hn)

theorem setNodup {w : World} {m : Nat} {s : List Int} (h : SetAt w m s) : s.Nodup := by obtain ⟨_, _, _, _, _, h⟩ := h; exact h

theorem setAt_made (w : World) : SetAt (w.alloc (.map #[] 0)) w.heap.size [] :=
  ⟨#[], 0, heap_alloc_same w _, rfl, by simp, List.nodup_nil⟩

theorem int_inj : Function.Injective (Value.int .i64) := fun a b h => by simpa using h

theorem map_eraseIdx' {α β : Type} (f : α → β) : ∀ (l : List α) (j : Nat), (l.eraseIdx j).map f = (l.map f).eraseIdx j
  | [], _ => rfl
  | _ :: _, 0 => rfl
  | a :: l, j + 1 => by simp [map_eraseIdx' f l j]

theorem filter_ne_eraseIdx : ∀ (s : List Int) (j : Nat) (k : Int), s.Nodup → s[j]? = some k → s.filter (· ≠ k) = s.eraseIdx j
  | [], _, _, _, h => by simp at h
  | a :: s, 0, k, hn, h => by
    obtain rfl : a = k := by simpa using h
    rw [List.nodup_cons] at hn
    simp only [List.eraseIdx_cons_zero, ne_eq, not_true_eq_false, decide_false, Bool.false_eq_true, not_false_eq_true, List.filter_cons_of_neg]
    rw [List.filter_eq_self]
    intro b hb
    simp only [decide_not, Bool.not_eq_eq_eq_not, Bool.not_true, decide_eq_false_iff_not]
    exact fun e => hn.1 (e ▸ hb)
  | a :: s, j + 1, k, hn, h => by
    rw [List.nodup_cons] at hn
    have hk : s[j]? = some k := by simpa using h
    have hne : a ≠ k := fun e => hn.1 (e ▸ List.mem_of_getElem? hk)
    simp only [List.eraseIdx_cons_succ]
    rw [List.filter_cons_of_pos (by simpa using hne), filter_ne_eraseIdx s j k hn.2 hk]

theorem keys_ok {es : Array MapEntry} {s : List Int} (hks : es.toList.map (·.key) = s.map (Value.int .i64)) : ∀ x ∈ es.toList, IsKey (.int .i64) x.key := by
  intro x hx
  have : x.key ∈ es.toList.map (·.key) := List.mem_map.2 ⟨x, hx, rfl⟩
  rw [hks] at this
  obtain ⟨k, _, e⟩ := List.mem_map.1 this
  rw [← e]; simp [IsKey]

theorem mem_of_key {es : Array MapEntry} {s : List Int} (hks : es.toList.map (·.key) = s.map (Value.int .i64)) (k : Int) : k ∈ s ↔ ∃ x ∈ es.toList, x.key = .int .i64 k := by
  rw [show (∃ x ∈ es.toList, x.key = .int .i64 k) ↔ Value.int .i64 k ∈ es.toList.map (·.key) by simp [List.mem_map], hks]
  simp [List.mem_map]

section
variable {P : Program} {t kt et : TypeId} (hm : P.underlying t = some (.map kt et)) (hk : P.underlying kt = some (.int .i64))
include hm hk

theorem set_lookup (hz : ∀ w, (zeroValue et).run P w = .ok (.bool false) w) {w : World} {m : Nat} {s : List Int} (h : SetAt w m s) (k : Int) :
    (Instr.lookup t (.map (some m)) (.int .i64 k) false).run P w = .ok (.bool (decide (k ∈ s))) w := by
  obtain ⟨es, clock, hb, hks, hv, hn⟩ := h
  have hkk : IsKey (.int .i64) (.int .i64 k) := by simp [IsKey]
  rcases findNow_spec hkk es.toList 0 (keys_ok hks) with ⟨h1, h2⟩ | ⟨j, e, h1, h2, h3⟩
  · have : ¬ k ∈ s := fun hin => by
      obtain ⟨x, hx, hxk⟩ := (mem_of_key hks k).1 hin
      exact h2 x hx hxk
    simp [Instr.lookup, run_underlying hm, MapKept.run_getObj_map hb, run_checkKey hk hkk, run_findKey hk h1, Result.andThen, hz, this]
  · have hin : k ∈ s := (mem_of_key hks k).2 ⟨e, List.mem_of_getElem? h2, h3⟩
    have hev : e.val = .bool true := hv e (List.mem_of_getElem? h2)
    simp [Instr.lookup, run_underlying hm, MapKept.run_getObj_map hb, run_checkKey hk hkk, run_findKey hk h1, Result.andThen, hin, hev]

theorem set_lookup_nil (hz : ∀ w, (zeroValue et).run P w = .ok (.bool false) w) (w : World) (k : Int) :
    (Instr.lookup t (.map none) (.int .i64 k) false).run P w = .ok (.bool false) w := by
  have hkk : IsKey (.int .i64) (.int .i64 k) := by simp [IsKey]
  have h1 : Instr.findNow (.int .i64) (.int .i64 k) [] 0 = some none := rfl
  simp [Instr.lookup, run_underlying hm, run_checkKey hk hkk, run_findKey hk h1, Result.andThen, hz]

theorem set_update {w : World} {m : Nat} {s : List Int} (h : SetAt w m s) (k : Int) :
    ∃ x, (Instr.mapUpdate t (.map (some m)) (.int .i64 k) (.bool true)).run P w = .ok () x ∧ SetAt x m (if k ∈ s then s else s ++ [k]) ∧ Keep [m] w x := by
  obtain ⟨es, clock, hb, hks, hv, hn⟩ := h
  have hkk : IsKey (.int .i64) (.int .i64 k) := by simp [IsKey]
  have keep : ∀ o : Obj, Keep [m] w { w with heap := w.heap.setIfInBounds m o } := fun o =>
    ⟨rfl, rfl, rfl, by simp, fun r _ hr => (heap_set (o' := o) hb).2 r (by simpa using hr)⟩
  rcases findNow_spec hkk es.toList 0 (keys_ok hks) with ⟨h1, h2⟩ | ⟨j, e, h1, h2, h3⟩
  · have hno : ¬ k ∈ s := fun hin => by
      obtain ⟨x, hx, hxk⟩ := (mem_of_key hks k).1 hin
      exact h2 x hx hxk
    refine ⟨_, by simp [Instr.mapUpdate, run_underlying hm, MapKept.run_getObj_map hb, run_checkKey hk hkk, run_findKey hk h1, MapKept.run_setObj_map _ hb, Result.andThen]; rfl, ?_, keep _⟩
    rw [if_neg hno]
    refine ⟨_, _, (heap_set hb).1, by simp [hks], ?_, ?_⟩
    · intro x hx
      simp only [Array.toList_push, List.mem_append, List.mem_singleton] at hx
      rcases hx with hx | rfl
      · exact hv x hx
      · rfl
    · rw [List.nodup_append]; exact ⟨hn, by simp, by simp; exact fun a ha e => hno (e ▸ ha)⟩
  · have hin : k ∈ s := (mem_of_key hks k).2 ⟨e, List.mem_of_getElem? h2, h3⟩
    have hj : es[j]? = some e := by simpa using h2
    refine ⟨_, by simp [Instr.mapUpdate, run_underlying hm, MapKept.run_getObj_map hb, run_checkKey hk hkk, run_findKey hk h1, hj, h3, run_keyThatStays hkk, MapKept.run_setObj_map _ hb, Result.andThen]; rfl, ?_, keep _⟩
    rw [if_pos hin]
    refine ⟨_, _, (heap_set hb).1, ?_, ?_, hn⟩
    · rw [modify_keys _ _ (fun e' he' => by rw [hj] at he'; cases he'; exact h3.symm), hks]
    · intro x hx
      obtain ⟨i, hi⟩ := List.getElem?_of_mem hx
      simp only [Array.getElem?_toList, Array.getElem?_modify] at hi
      split at hi
      · cases hq : es[i]? <;> simp [hq] at hi
        rw [← hi]
      · exact hv x (by simpa using Array.mem_of_getElem? hi)

theorem set_delete {ty : TypeId} {w : World} {m : Nat} {s : List Int} (h : SetAt w m s) (k : Int) :
    ∃ x, (Builtin.delete_ #[t, kt] ty #[.map (some m), .int .i64 k]).run P w = .ok (.tuple #[]) x ∧ SetAt x m (s.filter (· ≠ k)) ∧ Keep [m] w x := by
  obtain ⟨es, clock, hb, hks, hv, hn⟩ := h
  have hkk : IsKey (.int .i64) (.int .i64 k) := by simp [IsKey]
  have keep : ∀ o : Obj, Keep [m] w { w with heap := w.heap.setIfInBounds m o } := fun o =>
    ⟨rfl, rfl, rfl, by simp, fun r _ hr => (heap_set (o' := o) hb).2 r (by simpa using hr)⟩
  rcases findNow_spec hkk es.toList 0 (keys_ok hks) with ⟨h1, h2⟩ | ⟨j, e, h1, h2, h3⟩
  · have hno : ¬ k ∈ s := fun hin => by
      obtain ⟨x, hx, hxk⟩ := (mem_of_key hks k).1 hin
      exact h2 x hx hxk
    refine ⟨_, by simp [Builtin.delete_, run_underlying hm, MapKept.run_getObj_map hb, run_checkKey hk hkk, run_findKey hk h1, MapKept.run_setObj_map _ hb, Result.andThen]; rfl, ?_, keep _⟩
    have e : s.filter (· ≠ k) = s := by
      rw [List.filter_eq_self]; intro a ha; simp; exact fun e => hno (e ▸ ha)
    rw [e]
    exact ⟨_, _, (heap_set hb).1, hks, hv, hn⟩
  · refine ⟨_, by simp [Builtin.delete_, run_underlying hm, MapKept.run_getObj_map hb, run_checkKey hk hkk, run_findKey hk h1, MapKept.run_setObj_map _ hb, Result.andThen]; rfl, ?_, keep _⟩
    have hj : j < es.size := by have := List.getElem?_eq_some_iff.1 h2; obtain ⟨h, _⟩ := this; simpa using h
    have hl : (es.eraseIdxIfInBounds j).toList = es.toList.eraseIdx j := by
      unfold Array.eraseIdxIfInBounds; rw [dif_pos hj]; simp
    have hsj : s[j]? = some k := by
      have := congrArg (fun l => l[j]?) hks
      simp only [List.getElem?_map, h2, Option.map_some] at this
      cases hq : s[j]? with
      | none => simp [hq] at this
      | some q => simp [hq, h3] at this; rw [this]
    refine ⟨_, _, (heap_set hb).1, ?_, ?_, hn.filter _⟩
    · rw [hl, map_eraseIdx', hks, filter_ne_eraseIdx s j k hn hsj, map_eraseIdx']
    · intro x hx
      rw [hl] at hx
      exact hv x ((List.eraseIdx_sublist _ _).subset hx)

omit hk in
theorem set_clear {ty : TypeId} {w : World} {m : Nat} {s : List Int} (h : SetAt w m s) :
    ∃ x, (Builtin.clear_ #[t] ty #[.map (some m)]).run P w = .ok (.tuple #[]) x ∧ SetAt x m [] ∧ Keep [m] w x := by
  obtain ⟨es, clock, hb, hks, hv, hn⟩ := h
  have keep : ∀ o : Obj, Keep [m] w { w with heap := w.heap.setIfInBounds m o } := fun o =>
    ⟨rfl, rfl, rfl, by simp, fun r _ hr => (heap_set (o' := o) hb).2 r (by simpa using hr)⟩
  exact ⟨_, by simp [Builtin.clear_, run_underlying hm, MapKept.run_getObj_map hb, MapKept.run_setObj_map _ hb, Result.andThen]; rfl, ⟨_, _, (heap_set hb).1, rfl, by simp, List.nodup_nil⟩, keep _⟩

omit hk in
theorem set_len {ty : TypeId} {w : World} {m : Nat} {s : List Int} (h : SetAt w m s) : (Builtin.len_ #[t] ty #[.map (some m)]).run P w = .ok (.int .i64 s.length) w := by
  obtain ⟨es, clock, hb, hks, hv, hn⟩ := h
  have : es.size = s.length := by have := congrArg List.length hks; simpa using this
  simp [Builtin.len_, run_underlying hm, MapKept.run_getObj_map hb, Result.andThen, this, goInt]

end
end Go.Mum

/- The calls of the package pool, one by one: what each answers and what it leaves. -/
namespace Go.Proofs.Ytpinoejckagjbaa
open Go.RowKit Go.Mum

/-- A pool that New made. -/
def PoolAt (w : World) (b m : Nat) (first n : Int) (s : List Int) (tk sh : Int) : Prop :=
  w.heap[b]? = some (.cells #[.bool true, .int .i64 first, .int .i64 n, .map (some m), .int .i64 tk, .int .i64 sh] 124 (0, 0)) ∧ SetAt w m s

theorem zeroBool (w : World) : (zeroValue 4).run Try.prog w = .ok (.bool false) w := by kernel_rfl

theorem PoolAt.ne {w : World} {b m : Nat} {first n : Int} {s : List Int} {tk sh : Int} (h : PoolAt w b m first n s tk sh) : m ≠ b := by
  obtain ⟨h1, es, cl, h2, _⟩ := h
  rintro rfl
  rw [h1] at h2
  simp at h2

theorem PoolAt.keep {l : List Nat} {w x : World} {b m : Nat} {first n : Int} {s : List Int} {tk sh : Int} (h : PoolAt w b m first n s tk sh) (hk : Keep l w x) (hb : b ∉ l) (hm : m ∉ l) : PoolAt x b m first n s tk sh :=
  ⟨hk.heap h.1 hb, h.2.keep hk hm⟩

theorem PoolAt.cells {w : World} {b m : Nat} {first n : Int} {s : List Int} {tk sh : Int} (h : PoolAt w b m first n s tk sh) :
    w.cell? ⟨b, 0, none⟩ = some (.bool true) ∧ w.cell? ⟨b, 1, none⟩ = some (.int .i64 first) ∧ w.cell? ⟨b, 2, none⟩ = some (.int .i64 n) ∧ w.cell? ⟨b, 3, none⟩ = some (.map (some m)) ∧
    w.cell? ⟨b, 4, none⟩ = some (.int .i64 tk) ∧ w.cell? ⟨b, 5, none⟩ = some (.int .i64 sh) :=
  ⟨cell_of h.1 0 rfl, cell_of h.1 1 rfl, cell_of h.1 2 rfl, cell_of h.1 3 rfl, cell_of h.1 4 rfl, cell_of h.1 5 rfl⟩

set_option maxHeartbeats 400000 in
theorem pnone_nil (w : World) :
    Calls Try.prog 58 #[.pointer none] w fun e w' => e = .returned (.bool true) ∧ w = w' := by
  go_enter Try.func58, Try.ntmps58
  go_wp2
  go_ret
  exact ⟨rfl, rfl⟩

set_option maxHeartbeats 400000 in
theorem pnone_at (b : Nat) (m : Bool) (w : World) (hc : w.cell? ⟨b, 0, none⟩ = some (.bool m)) :
    Calls Try.prog 58 #[.pointer (some ⟨b, 0, none⟩)] w fun e w' => e = .returned (.bool (!m)) ∧ w = w' := by
  go_enter Try.func58, Try.ntmps58
  go_wp2
  go_ret
  exact ⟨rfl, rfl⟩

set_option maxHeartbeats 400000 in
theorem pnew_bad (first n : Int) (w : World) (h1 : -9223372036854775808 ≤ first ∧ first ≤ 9223372036854775807) (h2 : -9223372036854775808 ≤ n ∧ n ≤ 9223372036854775807)
    (h : first < 0 ∨ n < 0 ∨ 512 < n ∨ 512 - n < first) :
    Calls Try.prog 21 #[.int .i64 first, .int .i64 n] w fun e w' => e = .returned (.tuple #[.pointer none, .int .i64 2]) ∧ w = w' := by
  obtain ⟨h1a, h1b⟩ := h1
  obtain ⟨h2a, h2b⟩ := h2
  have hmm := @run_makeMap Try.prog
  go_enter Try.func21, Try.ntmps21
  go_wp2
  all_goals first | (exfalso; omega) | (go_ret2; exact ⟨rfl, rfl⟩)

/-- What a pool that New made looks like. -/
def NewPool (first n : Int) (w : World) (e : Ending) (w' : World) : Prop :=
  ∃ b m, w.heap.size ≤ b ∧ w.heap.size ≤ m ∧ e = .returned (.tuple #[.pointer (some ⟨b, 0, none⟩), .int .i64 0]) ∧ PoolAt w' b m first n [] 0 0 ∧ Keep [] w w'

set_option maxHeartbeats 400000 in
theorem pnew_good (first n : Int) (w : World) (h1 : 0 ≤ first) (h2 : 0 ≤ n) (h3 : n ≤ 512) (h4 : first ≤ 512 - n) :
    Calls Try.prog 21 #[.int .i64 first, .int .i64 n] w (NewPool first n w) := by
  have hmm := @run_makeMap Try.prog
  go_enter Try.func21, Try.ntmps21
  go_wp2
  all_goals try (exfalso; omega)
  go_ret2
  exact ⟨w.heap.size + 1, w.heap.size, by omega, by omega, rfl, ⟨heap_alloc_at _ (by simp), (setAt_made w).keep ((Keep.refl [] _).alloc _) (by simp)⟩, ((Keep.refl _ _).alloc _).alloc _⟩

set_option maxHeartbeats 400000 in
theorem pleft_at {b m : Nat} {first n : Int} {s : List Int} {tk sh : Int} {w : World} (h : PoolAt w b m first n s tk sh) (hn : 0 ≤ n) (hn' : n ≤ 512) (hs : s.length ≤ 100000) :
    Calls Try.prog 24 #[.pointer (some ⟨b, 0, none⟩)] w fun e w' => e = .returned (.int .i64 (n - s.length)) ∧ ∃ k, w' = w.drewN k := by
  have hl := fun ty w (hw : SetAt w m s) => set_len (P := Try.prog) Try.underlying122 (ty := ty) hw
  obtain ⟨c0, c1, c2, c3, c4, c5⟩ := h.cells
  have hl' : ∀ ty k, (Builtin.len_ #[122] ty #[.map (some m)]).run Try.prog (w.drewN k) = .ok (.int .i64 s.length) (w.drewN k) := fun ty k => hl ty _ h.2
  clear hl
  go_enter Try.func24, Try.ntmps24
  go_wp2
  go_quiet (fail)
  go_wp2
  go_ret
  exact ⟨rfl, _, rfl⟩

set_option maxHeartbeats 400000 in
theorem aload_at {b i : Nat} {v : Int} {w : World} (h : w.cell? ⟨b, i, none⟩ = some (.int .i64 v)) :
    Calls Try.prog 75 #[.pointer (some ⟨b, i, none⟩)] w fun e w' => e = .returned (.int .i64 v) ∧ w = w' := by
  have hl := run_call_load (P := Try.prog) Try.func92 (by kernel_rfl) (by kernel_rfl) (by kernel_rfl) .i64 (by kernel_rfl) h
  go_enter Try.func75, Try.ntmps75
  go_wp2
  go_ret
  exact ⟨rfl, rfl⟩

set_option maxHeartbeats 400000 in
theorem aadd_at {b i : Nat} {v d : Int} {w : World} (h : w.cell? ⟨b, i, none⟩ = some (.int .i64 v)) (hf : w.frozen? ⟨b, i, none⟩ = false) (h1 : -1000000000000 ≤ v) (h2 : v ≤ 1000000000000) (h3 : -1000000000000 ≤ d) (h4 : d ≤ 1000000000000) :
    Calls Try.prog 62 #[.pointer (some ⟨b, i, none⟩), .int .i64 d] w fun e w' => e = .returned (.int .i64 (v + d)) ∧ w' = w.setCell ⟨b, i, none⟩ (.int .i64 (v + d)) := by
  have hl := run_call_add (P := Try.prog) Try.func87 (by kernel_rfl) (by kernel_rfl) (by kernel_rfl) .i64 (by kernel_rfl) (y := d) (s := v + d) h hf (by simp [go_sem, IntWalk.i64_in (v + d) (by omega)])
  go_enter Try.func62, Try.ntmps62
  go_wp2
  go_ret
  exact ⟨rfl, rfl⟩

set_option maxHeartbeats 400000 in
theorem pgive_in {b m : Nat} {first n : Int} {s : List Int} {tk sh : Int} {w : World} (h : PoolAt w b m first n s tk sh) (f : Int) (hf : f ∈ s) :
    Calls Try.prog 81 #[.pointer (some ⟨b, 0, none⟩), .int .i64 f] w fun e w' => e = .returned (.bool true) ∧ PoolAt w' b m first n (s.filter (· ≠ f)) tk sh ∧ Keep [b, m] w w' := by
  have hl := set_lookup Try.underlying122 Try.underlying3 zeroBool h.2 f
  rw [show decide (f ∈ s) = true by simpa using hf] at hl
  obtain ⟨x, hd, hs, hk⟩ := set_delete Try.underlying122 Try.underlying3 (ty := 0) h.2 f
  obtain ⟨c0, c1, c2, c3, c4, c5⟩ := h.cells
  have hP : PoolAt x b m first n (s.filter (· ≠ f)) tk sh := ⟨hk.heap h.1 (by simpa using h.ne.symm), hs⟩
  have hK : Keep [b, m] w x := hk.weaken (by simp)
  have hd := hd
  clear hs hk h
  go_enter Try.func81, Try.ntmps81
  go_wp2
  go_ret
  exact ⟨rfl, hP, hK⟩

set_option maxHeartbeats 400000 in
theorem pgive_out {b m : Nat} {first n : Int} {s : List Int} {tk sh : Int} {w : World} (h : PoolAt w b m first n s tk sh) (f : Int) (hf : ¬ f ∈ s) :
    Calls Try.prog 81 #[.pointer (some ⟨b, 0, none⟩), .int .i64 f] w fun e w' => e = .returned (.bool false) ∧ w = w' := by
  have hl := set_lookup Try.underlying122 Try.underlying3 zeroBool h.2 f
  rw [show decide (f ∈ s) = false by simpa using hf] at hl
  obtain ⟨c0, c1, c2, c3, c4, c5⟩ := h.cells
  clear h
  go_enter Try.func81, Try.ntmps81
  go_wp2
  go_ret
  exact ⟨rfl, rfl⟩

/-- Frame first + k is lent, the first that was not. -/
def TakeYes (b m : Nat) (first n : Int) (s : List Int) (tk sh : Int) (w : World) (e : Ending) (w' : World) : Prop :=
  (∃ k : Nat, (k : Int) < n ∧ (∀ j : Nat, j < k → first + j ∈ s) ∧ ¬ first + k ∈ s ∧ e = .returned (.tuple #[.int .i64 (first + k), .bool true]) ∧ PoolAt w' b m first n (s ++ [first + k]) (tk + 1) sh ∧ Keep [b, m] w w') ∨
  ((∀ j : Nat, (j : Int) < n → first + j ∈ s) ∧ e = .returned (.tuple #[.int .i64 0, .bool false]) ∧ PoolAt w' b m first n s tk (sh + 1) ∧ Keep [b, m] w w')

set_option maxHeartbeats 1000000 in
theorem ptake_at {b m : Nat} {first n : Int} {s : List Int} {tk sh : Int} {w : World} (h : PoolAt w b m first n s tk sh)
    (h1 : 0 ≤ first) (h2 : 0 ≤ n) (h3 : n ≤ 512) (h4 : first ≤ 512 - n) (ht0 : 0 ≤ tk) (ht : tk ≤ 100000000) (hs0 : 0 ≤ sh) (hs : sh ≤ 100000000) :
    Calls Try.prog 80 #[.pointer (some ⟨b, 0, none⟩)] w (TakeYes b m first n s tk sh w) := by
  obtain ⟨c0, c1, c2, c3, c4, c5⟩ := h.cells
  have f4 := frozen_of h.1 4
  have f5 := frozen_of h.1 5
  go_enter Try.func80, Try.ntmps80
  go_wp2_with (go_at_call 58; refine (pnone_at b true _ c0).mono ?_; rintro e w' ⟨rfl, rfl⟩)
  go_loop [4, 5, 12] (fun _ _ i => ∃ k : Nat, (k : Int) ≤ n ∧ i = .int .i64 k ∧ ∀ j : Nat, j < k → first + j ∈ s) (fun _ _ i => (n - intOf i).toNat)
  case atStart => exact ⟨0, by omega, rfl, by omega⟩
  case round =>
    obtain ⟨k, hk, rfl, hall⟩ := hrel
    have Hall := Lib.hid hall
    clear hall
    by_cases hlt : (k : Int) < n
    · have hl := set_lookup Try.underlying122 Try.underlying3 zeroBool h.2 (first + k)
      by_cases hin : first + k ∈ s
      · rw [show decide (first + k ∈ s) = true by simpa using hin] at hl
        have Hin := Lib.hid hin
        have H := Lib.hid h
        clear hin h
        go_wp2
        go_round
        case rel => exact ⟨k + 1, by omega, by go_num, fun j hj => by
          by_cases e : j = k
          · rw [e]; exact Hin.out
          · exact Hall.out j (by omega)⟩
        case measure => simp [intOf]; omega
      · rw [show decide (first + k ∈ s) = false by simpa using hin] at hl
        obtain ⟨x, hd, hs', hk'⟩ := set_update Try.underlying122 Try.underlying3 h.2 (first + k)
        rw [if_neg hin] at hs'
        have hx : x.heap[b]? = some _ := hk'.heap h.1 (by simpa using h.ne.symm)
        have hc : x.cell? ⟨b, 4, none⟩ = some (.int .i64 tk) := cell_of hx 4 rfl
        have hfz := frozen_of hx 4
        have hne := h.ne
        have Hfin : Hid (TakeYes b m first n s tk sh w (.returned (.tuple #[.int .i64 (first + k), .bool true])) (x.setCell ⟨b, 4, none⟩ (.int .i64 (tk + 1)))) :=
          Lib.hid (.inl ⟨k, hlt, Hall.out, hin, rfl, ⟨heap_set_same hx 4 _, hs'.same (heap_set_other hne _ _)⟩, (hk'.weaken (l' := [b, m]) (by simp)).setCell (.inl (by simp)) _⟩)
        clear hs' hk' hx Hall h
        go_wp2_with (go_at_call 62; refine (aadd_at hc hfz (by omega) (by omega) (by omega) (by omega)).mono ?_; rintro e w' ⟨rfl, rfl⟩)
        go_ret2
        exact Hfin.out
    · have Hfin : Hid (TakeYes b m first n s tk sh w (.returned (.tuple #[.int .i64 0, .bool false])) (w.setCell ⟨b, 5, none⟩ (.int .i64 (sh + 1)))) :=
          Lib.hid (.inr ⟨fun j hj => Hall.out j (by omega), rfl, ⟨heap_set_same h.1 5 _, h.2.same (heap_set_other h.ne _ _)⟩, (Keep.refl _ _).setCell (.inl (by simp)) _⟩)
      clear Hall h
      go_wp2_with (go_at_call 62; refine (aadd_at c5 f5 (by omega) (by omega) (by omega) (by omega)).mono ?_; rintro e w' ⟨rfl, rfl⟩)
      go_ret2
      exact Hfin.out
end Go.Proofs.Ytpinoejckagjbaa
