/- Contracts of the functions that the law reaches, walked, and the plain laws on them (several texts in one). -/
import Derived.Test.YtgeakpeaohggoaaM15
import Derived.Test.YtgeakpeaohggoaaM06

/- Devices: the events come, with a memory: what they do; between two rounds. -/
namespace Go.Proofs.Ytgeakpeaohggoaa
open Go.RowKit Go.Mum Go.Shelf
set_option linter.unusedVariables false
set_option linter.unusedSimpArgs false
set_option maxRecDepth 100000

instance goodN_dec (s : DS) (n : Nat) : Decidable (goodN s n) := by unfold goodN; infer_instance

/-- Devices, a memory's bytes, the frames that were written. -/
structure CT where
  s : DS
  L : List Int
  fs : List Int

/-- What an event does. -/
def come1M (n : Nat) (t : CT) (e : Ev) : CT :=
  if e.kd = 0 then { t with s := { t.s with bits := t.s.bits ||| 1 } } else if e.kd = 1 then { t with s := pressS t.s e.by' }
  else if t.s.st = 1 then
    (if goodN t.s n then
      (if t.s.kd = 1 then ⟨{ t.s with st := 0, bits := t.s.bits ||| 4 }, splice t.L t.s.to (blkOf t.s), t.fs ++ [(t.s.to : Int) / 64]⟩
       else ⟨{ t.s with st := 0, disk := splice t.s.disk (64 * t.s.fr) ((t.L.drop t.s.to).take 64), bits := t.s.bits ||| 4 }, t.L, t.fs⟩)
     else ⟨{ t.s with st := 2, bits := t.s.bits ||| 4 }, t.L, t.fs⟩)
  else t

def setScr (t : CT) (r : List Ev) : CT := { t with s := { t.s with script := r } }

def comeM (n : Nat) (s : DS) (L : List Int) (k : Nat) : CT := setScr ((s.script.take k).foldl (come1M n) ⟨s, L, []⟩) (s.script.drop k)

theorem come1M_script (n : Nat) (t : CT) (e : Ev) (r : List Ev) : come1M n (setScr t r) e = setScr (come1M n t e) r := by
  unfold come1M setScr
  simp only [goodN]
  split
  · rfl
  · split
    · rfl
    · split
      · split
        · split <;> rfl
        · rfl
      · rfl

theorem comeM_succ {n : Nat} {s : DS} {L : List Int} {k : Nat} {e : Ev} (h : s.script[k]? = some e) : comeM n s L (k + 1) = come1M n (setScr (comeM n s L k) (s.script.drop (k + 1))) e := by
  have : s.script.take (k + 1) = s.script.take k ++ [e] := by
    rw [List.take_add_one, h]; rfl
  have h2 : (s.script.take (k + 1)).foldl (come1M n) ⟨s, L, []⟩ = come1M n ((s.script.take k).foldl (come1M n) ⟨s, L, []⟩) e := by rw [this, List.foldl_append]; rfl
  have h3 := come1M_script n ((s.script.take k).foldl (come1M n) ⟨s, L, []⟩) e (s.script.drop (k + 1))
  unfold comeM
  rw [h2, ← h3]
  rfl

/-- The frames as cells. -/
def i64s (l : List Int) : List Value := l.map (Value.int .i64)

/-- Between two rounds. -/
structure ComeJ (b : Nat) (F : List Nat) (step : Int) (r fb g n : Nat) (Ls : List Ev) (w : World) (k : Nat) (t : CT) (W : World) (F' : List Nat) (lv fv : Value) : Prop where
  dv : DM W b F' t.s r fb g n t.L
  keep : Keep (g :: F) w W
  fr : ∀ j ∈ F', j ∈ F ∨ w.heap.size + 6 ≤ j
  c0 : W.heap[w.heap.size]? = some (.cells #[.pointer (some ⟨b, 0, none⟩)] 26 (0, 0))
  c1 : W.heap[w.heap.size + 1]? = some (.cells #[.pointer (some ⟨r, 0, none⟩)] 53 (0, 0))
  c2 : W.heap[w.heap.size + 2]? = some (.cells #[lv] 23 (0, 0))
  c3 : W.heap[w.heap.size + 3]? = some (.cells #[fv] 30 (0, 0))
  c4 : W.heap[w.heap.size + 4]? = some (.cells #[.pointer (some ⟨b, 0, none⟩)] 26 (0, 0))
  c5 : W.heap[w.heap.size + 5]? = some (.cells #[.int .i64 step] 3 (0, 0))
  hlv : Buf W 25 3 lv k (evsC ((Ls.take k).map (lateE · step)))
  lf : ∀ j ∈ blk lv, w.heap.size + 6 ≤ j ∧ j ∉ F'
  hfv : Buf W 3 1 fv t.fs.length (i64s t.fs)
  ff : ∀ j ∈ blk fv, w.heap.size + 6 ≤ j ∧ j ∉ F' ∧ j ∉ blk lv
  one : t.fs.length ≤ 1
  busy : t.s.st = 1 → t.fs = []

section
variable {b : Nat} {F : List Nat} {step : Int} {r fb g n : Nat} {Ls : List Ev} {w : World} {k : Nat} {t t' : CT} {W x : World} {F' F'' : List Nat} {lv fv : Value} {l : List Nat}

theorem ComeJ.move (h : ComeJ b F step r fb g n Ls w k t W F' lv fv) (hF : ∀ j ∈ F, j < w.heap.size) (hg : g < w.heap.size) (hk : Keep l W x)
    (hl : ∀ j ∈ l, j ∈ F' ∨ j = g ∨ w.heap.size + 6 ≤ j) (hlv : ∀ j ∈ blk lv, j ∉ l) (hfv : ∀ j ∈ blk fv, j ∉ l) (hd : DM x b F'' t'.s r fb g n t'.L) (hF' : ∀ j ∈ F'', j ∈ F' ∨ W.heap.size ≤ j)
    (hfs : t'.fs = t.fs) (hst : t'.s.st = 1 → t.s.st = 1) : ComeJ b F step r fb g n Ls w k t' x F'' lv fv := by
  have hs := h.keep.size
  have h6 : w.heap.size + 6 ≤ W.heap.size := lt_of_heap h.c5
  have hb : ∀ i, i < 6 → w.heap.size + i ∉ l := fun i hi hm => by
    rcases hl _ hm with h1 | h1 | h1
    · rcases h.fr _ h1 with h2 | h2
      · have := hF _ h2; omega
      · omega
    · omega
    · omega
  refine ⟨hd, h.keep.then hk (fun j hj hlt => ?_), fun j hj => ?_, hk.heap h.c0 (hb 0 (by omega)), hk.heap h.c1 (hb 1 (by omega)), hk.heap h.c2 (hb 2 (by omega)), hk.heap h.c3 (hb 3 (by omega)), hk.heap h.c4 (hb 4 (by omega)), hk.heap h.c5 (hb 5 (by omega)), h.hlv.keep hk hlv, fun j hj => ⟨(h.lf j hj).1, fun hm => ?_⟩, ?_, fun j hj => ⟨(h.ff j hj).1, fun hm => ?_, (h.ff j hj).2.2⟩, by rw [hfs]; exact h.one, fun hs => by rw [hfs]; exact h.busy (hst hs)⟩
  · rcases hl j hj with h1 | h1 | h1
    · rcases h.fr j h1 with h2 | h2
      · simp [h2]
      · omega
    · simp [h1]
    · omega
  · rcases hF' j hj with h1 | h1
    · exact h.fr j h1
    · exact .inr (by omega)
  · rcases hF' j hm with h1 | h1
    · exact (h.lf j hj).2 h1
    · have := h.hlv.lt j hj; omega
  · rw [hfs]; exact h.hfv.keep hk hfv
  · rcases hF' j hm with h1 | h1
    · exact (h.ff j hj).2.1 h1
    · have := h.hfv.lt j hj; omega

theorem ComeJ.put (h : ComeJ b F step r fb g n Ls w k t W F' lv fv) (hF : ∀ j ∈ F, j < w.heap.size) (hg : g < w.heap.size) {l : Nat} {o : Obj} (o' : Obj)
    (hl : w.heap.size + 6 ≤ l) (ho : W.heap[l]? = some o) (hc : o.isCells = false) (hr : r < w.heap.size ∧ fb < w.heap.size) : ComeJ b F step r fb g n Ls w k t (W.putObj l o') F' lv fv := by
  have n1 : ∀ j ∈ F', j ∉ [l] := fun j hj hm => by
    simp at hm; subst hm
    have := h.dv.dv.cellsB j hj o ho; rw [hc] at this; cases this
  have kp := keep_putObj W l o'
  refine h.move hF hg kp (fun j hj => by simp at hj; subst hj; exact .inr (.inr hl)) (fun j hj hm => ?_) (fun j hj hm => ?_) ⟨h.dv.dv.keep kp n1, h.dv.mem.keep kp (by simp; omega) (by simp; omega) (by simp; omega), h.dv.len, h.dv.ap⟩ (fun j hj => .inl hj) rfl (fun h => h)
  · simp at hm; subst hm
    have := Buf.cellsB h.hlv j hj o ho; rw [hc] at this; cases this
  · simp at hm; subst hm
    have := Buf.cellsB h.hfv j hj o ho; rw [hc] at this; cases this

theorem ComeJ.keep0 (h : ComeJ b F step r fb g n Ls w k t W F' lv fv) (hF : ∀ j ∈ F, j < w.heap.size) (hg : g < w.heap.size) (hk : Keep [] W x) : ComeJ b F step r fb g n Ls w k t x F' lv fv :=
  h.move hF hg hk (by simp) (by simp) (by simp) (h.dv.keep0 hk) (fun j hj => .inl hj) rfl (fun h => h)

theorem ComeJ.push {W1 w1 : World} {v' : Value} (h : ComeJ b F step r fb g n Ls w k t W F' lv fv) (hF : ∀ j ∈ F, j < w.heap.size) (hg : g < w.heap.size) (hr : r < w.heap.size ∧ fb < w.heap.size) (k0 : Keep [] W W1)
    (hk1 : Keep (blk lv) W1 w1) {e : Ev} (he : Ls[k]? = some e) (hb : Buf w1 25 3 v' (k + 1) (evsC ((Ls.take k).map (lateE · step)) ++ evC (lateE e step))) (hs : ∀ j ∈ blk v', j ∈ blk lv ∨ W.heap.size ≤ j) :
    ComeJ b F step r fb g n Ls w (k + 1) t (w1.setCell ⟨w.heap.size + 2, 0, none⟩ v') F' v' fv := by
  have h6 : w.heap.size + 6 ≤ W.heap.size := lt_of_heap h.c5
  have nlv : ∀ i, i < 6 → w.heap.size + i ∉ blk lv := fun i hi hm => by have := (h.lf _ hm).1; omega
  have nv : ∀ i, i < 6 → w.heap.size + i ∉ blk v' := fun i hi hm => by
    rcases hs _ hm with h1 | h1
    · exact nlv i hi h1
    · omega
  have kA : Keep (blk lv) W w1 := (k0.weaken (fun k hk => by cases hk)).trans hk1
  have kS : Keep [w.heap.size + 2] w1 (w1.setCell ⟨w.heap.size + 2, 0, none⟩ v') := (Keep.refl _ _).setCell (.inl (by simp)) _
  have kB : Keep ((w.heap.size + 2) :: blk lv) W (w1.setCell ⟨w.heap.size + 2, 0, none⟩ v') := (kA.weaken (fun k hk _ => by simp [hk])).setCell (.inl (by simp)) _
  have cc : ∀ i, i < 6 → i ≠ 2 → ∀ o, W.heap[w.heap.size + i]? = some o → (w1.setCell ⟨w.heap.size + 2, 0, none⟩ v').heap[w.heap.size + i]? = some o := fun i hi h2 o ho =>
    kB.heap ho (by simp only [List.mem_cons, not_or]; exact ⟨by omega, nlv i hi⟩)
  have nlow : ∀ j, j < w.heap.size → j ∉ (w.heap.size + 2) :: blk lv := fun j hj hm => by
    rcases List.mem_cons.1 hm with rfl | h1
    · omega
    · have := (h.lf j h1).1; omega
  have nF : ∀ j ∈ F', j ∉ (w.heap.size + 2) :: blk lv := fun j hj hm => by
    rcases List.mem_cons.1 hm with rfl | h1
    · rcases h.fr _ hj with h2 | h2
      · have := hF _ h2; omega
      · omega
    · exact (h.lf j h1).2 hj
  refine ⟨⟨h.dv.dv.keep kB nF, h.dv.mem.keep kB (nlow _ hr.1) (nlow _ hr.2) (nlow _ hg), h.dv.len, h.dv.ap⟩, h.keep.then kB (fun j hj hlt => ?_), h.fr, cc 0 (by omega) (by omega) _ h.c0, cc 1 (by omega) (by omega) _ h.c1, ?_, cc 3 (by omega) (by omega) _ h.c3, cc 4 (by omega) (by omega) _ h.c4, cc 5 (by omega) (by omega) _ h.c5, ?_, fun j hj => ?_, h.hfv.keep kB (fun j hj hm => ?_), fun j hj => ⟨(h.ff j hj).1, (h.ff j hj).2.1, fun hm => ?_⟩, h.one, h.busy⟩
  · rcases List.mem_cons.1 hj with rfl | h1
    · omega
    · have := (h.lf j h1).1; omega
  · have := heap_set_same (kA.heap h.c2 (nlv 2 (by omega))) 0 v'
    rw [this]; rfl
  · have e2 : Ls.take (k + 1) = Ls.take k ++ [e] := by rw [List.take_add_one, he]; rfl
    have e3 : evsC ((Ls.take (k + 1)).map (lateE · step)) = evsC ((Ls.take k).map (lateE · step)) ++ evC (lateE e step) := by rw [e2, List.map_append, evsC_append]; simp [evsC]
    rw [e3]
    exact hb.keep kS (fun j hj hm => by simp at hm; subst hm; exact nv 2 (by omega) hj)
  · rcases hs j hj with h1 | h1
    · exact h.lf j h1
    · exact ⟨by omega, fun hm => by have := h.dv.dv.lt j hm; omega⟩
  · rcases List.mem_cons.1 hm with rfl | h1
    · have := (h.ff _ hj).1; omega
    · exact (h.ff j hj).2.2 h1
  · rcases hs j hm with h1 | h1
    · exact (h.ff j hj).2.2 h1
    · have := h.hfv.lt j hj; omega

/-- A frame is appended. -/
theorem ComeJ.frame {W1 w1 : World} {v' : Value} {z : Int} (h : ComeJ b F step r fb g n Ls w k t W F' lv fv) (hF : ∀ j ∈ F, j < w.heap.size) (hg : g < w.heap.size) (hr : r < w.heap.size ∧ fb < w.heap.size) (k0 : Keep [] W W1)
    (hk1 : Keep (blk fv) W1 w1) (hnil : t.fs = []) (hst : t.s.st ≠ 1) (hb : Buf w1 3 1 v' (t.fs.length + 1) (i64s t.fs ++ [.int .i64 z])) (hs : ∀ j ∈ blk v', j ∈ blk fv ∨ W.heap.size ≤ j) :
    ComeJ b F step r fb g n Ls w k { t with fs := t.fs ++ [z] } (w1.setCell ⟨w.heap.size + 3, 0, none⟩ v') F' lv v' := by
  have h6 : w.heap.size + 6 ≤ W.heap.size := lt_of_heap h.c5
  have nfv : ∀ i, i < 6 → w.heap.size + i ∉ blk fv := fun i hi hm => by have := (h.ff _ hm).1; omega
  have nv : ∀ i, i < 6 → w.heap.size + i ∉ blk v' := fun i hi hm => by
    rcases hs _ hm with h1 | h1
    · exact nfv i hi h1
    · omega
  have kA : Keep (blk fv) W w1 := (k0.weaken (fun k hk => by cases hk)).trans hk1
  have kS : Keep [w.heap.size + 3] w1 (w1.setCell ⟨w.heap.size + 3, 0, none⟩ v') := (Keep.refl _ _).setCell (.inl (by simp)) _
  have kB : Keep ((w.heap.size + 3) :: blk fv) W (w1.setCell ⟨w.heap.size + 3, 0, none⟩ v') := (kA.weaken (fun k hk _ => by simp [hk])).setCell (.inl (by simp)) _
  have cc : ∀ i, i < 6 → i ≠ 3 → ∀ o, W.heap[w.heap.size + i]? = some o → (w1.setCell ⟨w.heap.size + 3, 0, none⟩ v').heap[w.heap.size + i]? = some o := fun i hi h2 o ho =>
    kB.heap ho (by simp only [List.mem_cons, not_or]; exact ⟨by omega, nfv i hi⟩)
  have nlow : ∀ j, j < w.heap.size → j ∉ (w.heap.size + 3) :: blk fv := fun j hj hm => by
    rcases List.mem_cons.1 hm with rfl | h1
    · omega
    · have := (h.ff j h1).1; omega
  have nF : ∀ j ∈ F', j ∉ (w.heap.size + 3) :: blk fv := fun j hj hm => by
    rcases List.mem_cons.1 hm with rfl | h1
    · rcases h.fr _ hj with h2 | h2
      · have := hF _ h2; omega
      · omega
    · exact (h.ff j h1).2.1 hj
  refine ⟨⟨h.dv.dv.keep kB nF, h.dv.mem.keep kB (nlow _ hr.1) (nlow _ hr.2) (nlow _ hg), h.dv.len, h.dv.ap⟩, h.keep.then kB (fun j hj hlt => ?_), h.fr, cc 0 (by omega) (by omega) _ h.c0, cc 1 (by omega) (by omega) _ h.c1, cc 2 (by omega) (by omega) _ h.c2, ?_, cc 4 (by omega) (by omega) _ h.c4, cc 5 (by omega) (by omega) _ h.c5, h.hlv.keep kB (fun j hj hm => ?_), h.lf, ?_, fun j hj => ?_, by rw [hnil]; simp, fun h => absurd h hst⟩
  · rcases List.mem_cons.1 hj with rfl | h1
    · omega
    · have := (h.ff j h1).1; omega
  · have := heap_set_same (kA.heap h.c3 (nfv 3 (by omega))) 0 v'
    rw [this]; rfl
  · rcases List.mem_cons.1 hm with rfl | h1
    · have := (h.lf _ hj).1; omega
    · exact (h.ff j h1).2.2 hj
  · show Buf _ _ _ _ (t.fs ++ [z]).length (i64s (t.fs ++ [z]))
    rw [List.length_append]
    have e3 : i64s (t.fs ++ [z]) = i64s t.fs ++ [.int .i64 z] := by simp [i64s]
    rw [e3]
    exact hb.keep kS (fun j hj hm => by simp at hm; subst hm; exact nv 3 (by omega) hj)
  · rcases hs j hj with h1 | h1
    · exact h.ff j h1
    · exact ⟨by omega, fun hm => by have := h.dv.dv.lt j hm; omega, fun hm => by have := h.hlv.lt j hm; omega⟩
end

end Go.Proofs.Ytgeakpeaohggoaa
