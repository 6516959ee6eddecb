/- The law PoolApart, walked. -/
import Derived.Test.YtaanefkddmakeaaPoolBegins
import Derived.Test.YtaanefkddmakeaaArr
import Derived.Deep.RegionHeld3
namespace Go.Proofs.Ytaanefkddmakeaa
open Go.RowKit Go.Mum

theorem length_le_of_sub : ∀ {s t : List Int}, s.Nodup → (∀ x ∈ s, x ∈ t) → s.length ≤ t.length
  | [], _, _, _ => Nat.zero_le _
  | a :: s, t, hn, hs => by
    rw [List.nodup_cons] at hn
    have ha : a ∈ t := hs a (.head _)
    have h := length_le_of_sub (s := s) (t := t.erase a) hn.2 fun x hx => (List.mem_erase_of_ne (fun e : x = a => hn.1 (e ▸ hx))).2 (hs x (.tail _ hx))
    rw [List.length_erase_of_mem ha] at h
    have := List.length_pos_of_mem ha
    simp only [List.length_cons]
    omega

/-- The frames of a pool. -/
def span (first : Int) (n : Nat) : List Int := (List.range n).map fun j : Nat => first + (j : Int)

theorem mem_span {first x : Int} {n : Nat} : x ∈ span first n ↔ first ≤ x ∧ x < first + n := by
  unfold span
  simp only [List.mem_map, List.mem_range]
  constructor
  · rintro ⟨j, hj, rfl⟩; omega
  · intro ⟨h1, h2⟩; exact ⟨(x - first).toNat, by omega, by omega⟩

theorem nodup_span (first : Int) (n : Nat) : (span first n).Nodup := by
  unfold span
  refine List.Pairwise.map _ ?_ List.nodup_range
  intro a b h e
  exact h (by omega)

theorem length_span (first : Int) (n : Nat) : (span first n).length = n := by simp [span]

theorem le_of_span {s : List Int} {first : Int} {n : Nat} (hn : s.Nodup) (hs : ∀ x ∈ s, first ≤ x ∧ x < first + n) : s.length ≤ n := by
  have := length_le_of_sub (t := span first n) hn fun x hx => mem_span.2 (hs x hx)
  rwa [length_span] at this

theorem full_of_span {s : List Int} {first : Int} {n : Nat} (h : ∀ j : Nat, (j : Int) < n → first + j ∈ s) : n ≤ s.length := by
  have := length_le_of_sub (t := s) (nodup_span first n) fun x hx => by
    have hx := mem_span.1 hx
    have := h (x - first).toNat (by omega)
    rwa [show first + ((x - first).toNat : Int) = x by omega] at this
  rwa [length_span] at this

theorem lt_of_span {s : List Int} {first : Int} {n k : Nat} (hn : s.Nodup) (hs : ∀ x ∈ s, first ≤ x ∧ x < first + n) (hk : k < n) (hno : ¬ first + (k : Int) ∈ s) : s.length < n := by
  have := le_of_span (s := s ++ [first + (k : Int)]) (first := first) (n := n) (by rw [List.nodup_append]; exact ⟨hn, by simp, by simp; exact fun a ha e => hno (e ▸ ha)⟩)
    (by intro x hx; rcases List.mem_append.1 hx with hx | hx; exact hs x hx; simp at hx; omega)
  simp at this
  omega

structure Apart (W : World) (b m ob : Nat) (first n : Nat) (s : List Int) (tk sh : Int) (k : Nat) (w : World) : Prop where
  pool : PoolAt w b m first n s tk sh
  tk : 0 ≤ tk ∧ tk ≤ k
  sh : 0 ≤ sh ∧ sh ≤ k
  span : ∀ x ∈ s, (first : Int) ≤ x ∧ x < first + n
  out : ArrAt w ob 4 600 fun j => .bool (decide ((j : Int) ∈ s))
  ne : ob ≠ b ∧ ob ≠ m
  keep : Keep [] W w
  new : W.heap.size ≤ b ∧ W.heap.size ≤ m ∧ W.heap.size ≤ ob
  bound : first ≤ 255 ∧ n ≤ 255 ∧ k ≤ 300

theorem Apart.len {W : World} {b m ob first n : Nat} {s : List Int} {tk sh : Int} {k : Nat} {w : World} (h : Apart W b m ob first n s tk sh k w) : s.length ≤ n :=
  le_of_span (setNodup h.pool.2) h.span

/-- A frame is given back, and struck. -/
theorem Apart.give {W : World} {b m ob first n : Nat} {s : List Int} {tk sh : Int} {k : Nat} {w x : World} (h : Apart W b m ob first n s tk sh k w) (f : Nat) (fi : Int) (hfi : (f : Int) = fi)
    (hP : PoolAt x b m first n (s.filter (· ≠ fi)) tk sh) (hK : Keep [b, m] w x) (hk : k < 300) (d : Nat) :
    Apart W b m ob first n (s.filter (· ≠ fi)) tk sh (k + 1) ((x.drewN d).setCell ⟨ob, f, none⟩ (.bool false)) := by
  subst hfi
  obtain ⟨n1, n2, n3⟩ := h.new
  have hxn : Keep [b, m] w (x.drewN d) := hK.drewN d
  have ho : ArrAt (x.drewN d) ob 4 600 _ := h.out.keep hxn (by simp; exact ⟨h.ne.1, h.ne.2⟩)
  have k1 : Keep [ob] (x.drewN d) ((x.drewN d).setCell ⟨ob, f, none⟩ (.bool false)) := (Keep.refl _ _).setCell (.inl (by simp)) _
  refine ⟨?_, ⟨h.tk.1, by have := h.tk.2; omega⟩, ⟨h.sh.1, by have := h.sh.2; omega⟩, fun y hy => h.span y (List.mem_filter.1 hy).1, ?_, h.ne, ?_, h.new, ⟨h.bound.1, h.bound.2.1, by omega⟩⟩
  · have hP' : PoolAt (x.drewN d) b m first n (s.filter (· ≠ (f : Int))) tk sh := hP.keep ((Keep.refl [] x).drewN d) (by simp) (by simp)
    exact hP'.keep k1 (by simpa using h.ne.1.symm) (by simpa using h.ne.2.symm)
  · refine (ho.set f _).ext fun j _ => ?_
    by_cases e : j = f
    · subst e; simp
    · rw [if_neg e]
      have : ((j : Int) ∈ s.filter (· ≠ (f : Int))) ↔ (j : Int) ∈ s := by simp [List.mem_filter]; omega
      simp only [this]
  · exact (h.keep.then hxn (by simp; omega)).then k1 (by simp; omega)

theorem Apart.give_len {s : List Int} {f : Int} (hn : s.Nodup) (hf : f ∈ s) : ((s.filter (· ≠ f)).length : Int) = (s.length : Int) - 1 := by
  have e : s.filter (· ≠ f) = s.erase f := by rw [hn.erase_eq_filter]; apply List.filter_congr; intro a _; by_cases h : a = f <;> simp [h]
  rw [e, List.length_erase_of_mem hf]
  have := List.length_pos_of_mem hf
  omega

/-- A frame that was not lent, struck. -/
theorem Apart.idle {W : World} {b m ob first n : Nat} {s : List Int} {tk sh : Int} {k : Nat} {w : World} (h : Apart W b m ob first n s tk sh k w) (f : Nat) (hf : ¬ (f : Int) ∈ s) (hk : k < 300) (d : Nat) :
    Apart W b m ob first n s tk sh (k + 1) ((w.drewN d).setCell ⟨ob, f, none⟩ (.bool false)) := by
  obtain ⟨n1, n2, n3⟩ := h.new
  have hxn : Keep [] w (w.drewN d) := (Keep.refl _ _).drewN d
  have k1 : Keep [ob] (w.drewN d) ((w.drewN d).setCell ⟨ob, f, none⟩ (.bool false)) := (Keep.refl _ _).setCell (.inl (by simp)) _
  refine ⟨(h.pool.keep hxn (by simp) (by simp)).keep k1 (by simpa using h.ne.1.symm) (by simpa using h.ne.2.symm), ⟨h.tk.1, by have := h.tk.2; omega⟩, ⟨h.sh.1, by have := h.sh.2; omega⟩, h.span, ?_, h.ne, ?_, h.new, ⟨h.bound.1, h.bound.2.1, by omega⟩⟩
  · refine ((h.out.keep hxn (by simp)).set f _).ext fun j _ => ?_
    by_cases e : j = f
    · subst e; simp [hf]
    · rw [if_neg e]
  · exact (h.keep.then hxn (by simp)).then k1 (by simp; omega)

/-- A frame is lent, and noted. -/
theorem Apart.take {W : World} {b m ob first n : Nat} {s : List Int} {tk sh : Int} {k : Nat} {w x : World} (h : Apart W b m ob first n s tk sh k w) (j : Nat) (hj : j < n) (_hno : ¬ (first : Int) + j ∈ s)
    (hP : PoolAt x b m first n (s ++ [(first : Int) + j]) (tk + 1) sh) (hK : Keep [b, m] w x) (hk : k < 300) :
    Apart W b m ob first n (s ++ [(first : Int) + j]) (tk + 1) sh (k + 1) (x.setCell ⟨ob, first + j, none⟩ (.bool true)) := by
  obtain ⟨n1, n2, n3⟩ := h.new
  have k1 : Keep [ob] x (x.setCell ⟨ob, first + j, none⟩ (.bool true)) := (Keep.refl _ _).setCell (.inl (by simp)) _
  refine ⟨hP.keep k1 (by simpa using h.ne.1.symm) (by simpa using h.ne.2.symm), ⟨by have := h.tk.1; omega, by have := h.tk.2; omega⟩, ⟨h.sh.1, by have := h.sh.2; omega⟩, ?_, ?_, h.ne, ?_, h.new, ⟨h.bound.1, h.bound.2.1, by omega⟩⟩
  · intro y hy
    rcases List.mem_append.1 hy with hy | hy
    · exact h.span y hy
    · simp at hy; omega
  · refine ((h.out.keep hK (by simp; exact ⟨h.ne.1, h.ne.2⟩)).set (first + j) _).ext fun i _ => ?_
    by_cases e : i = first + j
    · subst e; simp
    · rw [if_neg e]
      have : ((i : Int) ∈ s ++ [(first : Int) + j]) ↔ (i : Int) ∈ s := by simp; omega
      simp only [this]
  · exact (h.keep.then hK (by simp; omega)).then k1 (by simp; omega)

theorem Apart.full {W : World} {b m ob first n : Nat} {s : List Int} {tk sh : Int} {k : Nat} {w x : World} (h : Apart W b m ob first n s tk sh k w)
    (hP : PoolAt x b m first n s tk (sh + 1)) (hK : Keep [b, m] w x) (hk : k < 300) : Apart W b m ob first n s tk (sh + 1) (k + 1) x := by
  obtain ⟨n1, n2, n3⟩ := h.new
  exact ⟨hP, ⟨h.tk.1, by have := h.tk.2; omega⟩, ⟨by have := h.sh.1; omega, by have := h.sh.2; omega⟩, h.span, h.out.keep hK (by simp; exact ⟨h.ne.1, h.ne.2⟩), h.ne, h.keep.then hK (by simp; omega), h.new, ⟨h.bound.1, h.bound.2.1, by omega⟩⟩

theorem info_bool : (Try.prog.info? 4).map (fun i => (i.zero, i.size, i.bytes)) = some (some (.bool false), 1, 1) := by kernel_rfl

set_option maxRecDepth 100000 in
set_option maxHeartbeats 1000000 in
theorem PoolApart_walk (a0 : Int) (a1 : Int) (s2 : Option Addr) (len2 cap2 n2 : Nat) (w : World) (w0 : (Lit.int .u8 a0).wf = true) (w1 : (Lit.int .u8 a1).wf = true) (w2 : Fits Try.prog w maxLen n2 37 [.slice s2 len2 cap2]) :
    Calls Try.prog 5 #[.int .u8 a0, .int .u8 a1, .slice s2 len2 cap2] w fun e w' => e = .returned (.bool true) ∧ Below w.heap.size w w' := by
  have b0 := wf_u8 w0
  have b1 := wf_u8 w1
  clear w0 w1
  obtain ⟨first, rfl⟩ : ∃ p : Nat, a0 = p := ⟨a0.toNat, by omega⟩
  obtain ⟨n, rfl⟩ : ∃ p : Nat, a1 = p := ⟨a1.toNat, by omega⟩
  have hfi : first ≤ 255 := by omega
  have hni : n ≤ 255 := by omega
  clear b0 b1
  have hlen : len2 ≤ 9223372036854775807 := by
    rcases w2.ints Try.underlying37 Try.underlying5 (by kernel_rfl) with h | ⟨_, _, _, _, h1, h2, _⟩
    · omega
    · unfold maxLen at h2; omega
  have hcell : len2 = 0 ∨ ∃ bb off, s2 = some ⟨bb, off, none⟩ ∧ bb < w.heap.size ∧ ∃ z : Nat → Nat, ∀ i, i < len2 → w.cell? ⟨bb, off + i, none⟩ = some (.int .u8 (z i)) ∧ z i ≤ 255 := by
    rcases w2.ints Try.underlying37 Try.underlying5 (by kernel_rfl) with h | ⟨bb, off, rfl, _, _, _, _, hlt, z, hz⟩
    · exact .inl h
    · refine .inr ⟨bb, off, rfl, hlt, fun i => (z i).toNat, fun i hi => ?_⟩
      obtain ⟨h1, h2⟩ := hz i hi
      have := wf_u8 h2
      exact ⟨by rw [h1, Int.toNat_of_nonneg this.1], by show (z i).toNat ≤ 255; omega⟩
  clear w2
  obtain ⟨i0, hi, hz0, hz1, hz2⟩ := info_parts info_bool
  go_enter Try.func5, Try.ntmps5
  go_wp2_with fail
  refine (pnew_good first n _ (by omega) (by omega) (by omega) (by omega)).mono ?_
  rintro e w1 ⟨b, m, hb, hm, rfl, hP, hK⟩
  go_wp2_with (at_make; refine wpList_make_full _ rfl _ _ 38 rfl w1.heap.size 4 i0 (.bool false) 1 Try.underlying38 hi hz0 hz1 .i64 .i64 600 600 600 rfl rfl rfl rfl (by rw [hz2]; omega) (by unfold maxLen; omega) (Nat.le_refl _) ?_; intro w2 hown hgrow)
  have hnew := w1.heap.size
  have hA : Apart w b m w1.heap.size first n [] 0 0 0 w2 := by
    have k2 : Keep [] w1 w2 := (Keep.refl _ _).grown hgrow (by simp)
    have l1 := lt_of_heap hP.1
    have l2 := hP.2.lt
    refine ⟨hP.keep k2 (by simp) (by simp), by omega, by omega, by simp, ?_, ⟨by omega, by omega⟩, hK.then k2 (by simp), ⟨hb, hm, hK.size⟩, by omega⟩
    exact (arrAt_of_made rfl hown).ext (by simp)
  clear hown hgrow hP hK hb hm hi hz0 hz1 hz2
  generalize w1.heap.size = ob at hA
  go_loopw [11, 12] (fun l i wr => ∃ (k : Nat) (s : List Int) (tk sh : Int), i = .int .i64 k ∧ l = .int .i64 s.length ∧ Apart w b m ob first n s tk sh k wr) (fun _ i _ => 300 - (intOf i).toNat)
  case atStart => exact ⟨0, [], 0, 0, rfl, rfl, hA⟩
  case round =>
    obtain ⟨k, s, tk, sh, rfl, rfl, hR⟩ := hrel
    have hkb := hR.bound.2.2
    have hs := hR.len
    by_cases hlt : k < 300
    · have hback : (∃ bb off q : Nat, s2 = some ⟨bb, off, none⟩ ∧ k < len2 ∧ wr.cell? ⟨bb, off + k, none⟩ = some (.int .u8 q) ∧ q ≤ 255) ∨ ¬ k < len2 := by
        by_cases hkl : k < len2
        · left
          rcases hcell with h | ⟨bb, off, rfl, hbb, z, hz⟩
          · omega
          · exact ⟨bb, off, z k, rfl, hkl, hR.keep.cell (hz k hkl).1 (by simp), (hz k hkl).2⟩
        · exact .inr hkl
      clear hcell
      have hside : (∃ bb off q : Nat, s2 = some ⟨bb, off, none⟩ ∧ k < len2 ∧ wr.cell? ⟨bb, off + k, none⟩ = some (.int .u8 q) ∧ q ≤ 255 ∧ (q : Int) % 3 = 0) ∨
          (∃ bb off q : Nat, s2 = some ⟨bb, off, none⟩ ∧ k < len2 ∧ wr.cell? ⟨bb, off + k, none⟩ = some (.int .u8 q) ∧ q ≤ 255 ∧ ¬ (q : Int) % 3 = 0) ∨ ¬ k < len2 := by
        rcases hback with ⟨bb, off, q, h1, h2, h3, h4⟩ | h
        · by_cases hq : (q : Int) % 3 = 0
          · exact .inl ⟨bb, off, q, h1, h2, h3, h4, hq⟩
          · exact .inr (.inl ⟨bb, off, q, h1, h2, h3, h4, hq⟩)
        · exact .inr (.inr h)
      clear hback
      rcases hside with ⟨bb, off, q, rfl, hkl, hck, hq, h3⟩ | hside
      · have hoc := hR.out.cell (j := first + q) (by omega)
        have hof := hR.out.frozen (first + q)
        have hidx : ((first + q : Nat) : Int) = (first : Int) + (q : Int) := by omega
        have hcast : IntKind.i64.wrap ((first : Int) + (q : Int)) = (first : Int) + (q : Int) := IntWalk.i64_in _ (by omega)
        by_cases hin : (first : Int) + (q : Int) ∈ s
        · rw [hidx, decide_eq_true hin] at hoc
          have HR := Lib.hid hR
          have Hin := Lib.hid hin
          have Hidx := Lib.hid hidx
          have hnm : Hid (ob ∉ [b, m]) := Lib.hid (by simp; exact hR.ne)
          have hoc' : wr.cell? ⟨ob, ((first : Int) + (q : Int)).toNat, none⟩ = some (.bool true) := by rw [show ((first : Int) + (q : Int)).toNat = first + q by omega]; exact hoc
          have hi0 : (0 : Int) ≤ (first : Int) + (q : Int) := by omega
          have hi1 : (first : Int) + (q : Int) < 600 := by omega
          clear hR hin hidx hcast
          go_wp2_with fail
          go_region_held3 (fun x => x.cell? ⟨ob, ((first : Int) + (q : Int)).toNat, none⟩ = some (.bool true)) (first | exact hoc' | exact Keep.cell (w := wr.drew) (l := [b, m]) (by assumption) hoc' hnm.out) (first | (go_at_call 20; refine (pgive_in (HR.out.pool.keep ((Keep.refl [] wr).drew) (by simp) (by simp)) _ Hin.out).mono ?_; rintro e w' ⟨rfl, hP', hK'⟩))
          have hK2 : Keep [b, m] wr w' := ((Keep.refl _ wr).drew).trans hK'
          have hoc2 : w'.cell? ⟨ob, first + q, none⟩ = some (.bool true) := hK2.cell hoc hnm.out
          have hof2 : w'.frozen? ⟨ob, first + q, none⟩ = false := by rw [hK2.frozen (World.block_lt_of_cell? wr ⟨ob, first + q, none⟩ hoc) hnm.out]; exact hof
          have HA : Hid (Apart w b m ob first n (s.filter (· ≠ (first : Int) + (q : Int))) tk sh (k + 1) (w'.setCell ⟨ob, first + q, none⟩ (.bool false))) :=
            Lib.hid (HR.out.give (first + q) _ Hidx.out hP' hK2 hlt 0)
          have HL : Hid (((s.filter (· ≠ (first : Int) + (q : Int))).length : Int) = (s.length : Int) - 1) := Lib.hid (Apart.give_len (setNodup HR.out.pool.2) Hin.out)
          clear hP' hK' hK2 HR
          go_wp2
          go_roundw
          case rel => exact ⟨k + 1, _, tk, sh, by go_num, by rw [HL.out], HA.out⟩
          case measure => simp [intOf]; omega
        · rw [hidx, decide_eq_false hin] at hoc
          have HR := Lib.hid hR
          have Hin := Lib.hid hin
          have Hidx := Lib.hid hidx
          clear hR hin hidx hcast
          go_wp2_with fail
          go_quiet ((go_at_call 20; exact quiet_same (pgive_out (HR.out.pool.keep ((Keep.refl [] wr).drewN _) (by simp) (by simp)) _ Hin.out)))
          go_wp2
          go_roundw
          case rel => exact ⟨k + 1, s, tk, sh, by go_num, rfl, HR.out.idle (first + q) (by rw [Hidx.out]; exact Hin.out) hlt nq⟩
          case measure => simp [intOf]; omega
      · rcases hside with ⟨bb, off, q, rfl, hkl, hck, hq, h3⟩ | hkl
        all_goals
          have HR := Lib.hid hR
          clear hR
          go_wp2_with fail
          have ht := HR.out.tk
          have hsh := HR.out.sh
          refine (ptake_at HR.out.pool (by omega) (by omega) (by omega) (by omega) (by omega) (by omega) (by omega) (by omega)).mono ?_
          rintro e w3 (⟨j, hj, -, hno, rfl, hP', hK'⟩ | ⟨hall, rfl, hP', hK'⟩)
          · have hjn : j < n := by omega
            have HA : Hid (Apart w b m ob first n (s ++ [(first : Int) + j]) (tk + 1) sh (k + 1) (w3.setCell ⟨ob, first + j, none⟩ (.bool true))) := Lib.hid (HR.out.take j hjn hno hP' hK' hlt)
            have hlt' : (s.length : Int) < (n : Int) := by have := lt_of_span (setNodup HR.out.pool.2) HR.out.span hjn hno; omega
            have hO := HR.out.out.keep hK' (by simp; exact HR.out.ne)
            have hoc : w3.cell? ⟨ob, first + j, none⟩ = some (.bool false) := by
              rw [hO.cell (j := first + j) (by omega), decide_eq_false (by rw [show ((first + j : Nat) : Int) = (first : Int) + j by omega]; exact hno)]
            have hof := hO.frozen (first + j)
            have hi0 : (0 : Int) ≤ (first : Int) + (j : Int) := by omega
            have hi1 : (first : Int) + (j : Int) < 600 := by omega
            have hi2 : ¬ (first : Int) + (j : Int) < (first : Int) := by omega
            have hi3 : ¬ (first : Int) + (n : Int) ≤ (first : Int) + (j : Int) := by omega
            clear hO hP' hK' hno HR
            go_wp2
            go_roundw
            case rel => exact ⟨k + 1, _, _, _, by go_num, by simp, HA.out⟩
            case measure => simp [intOf]; omega
          · have HA : Hid (Apart w b m ob first n s tk (sh + 1) (k + 1) w3) := Lib.hid (HR.out.full hP' hK' hlt)
            have hge : ¬ (s.length : Int) < (n : Int) := by have := full_of_span hall; omega
            clear hP' hK' hall HR
            go_wp2
            go_roundw
            case rel => exact ⟨k + 1, _, _, _, by go_num, rfl, HA.out⟩
            case measure => simp [intOf]; omega
    · have HR := Lib.hid hR
      clear hR hcell
      go_wp2_with (first | (go_at_call 19; refine (pleft_at HR.out.pool (by omega) (by omega) (by omega)).mono ?_; rintro e w3 ⟨rfl, d, rfl⟩) | (go_at_call 18; refine (pworks _).mono ?_; rintro e w' ⟨rfl, hK'⟩))
      go_ret
      exact ⟨rfl, ((HR.out.keep.drewN d).then hK' (by simp)).below (Nat.le_refl _) (by simp)⟩
end Go.Proofs.Ytaanefkddmakeaa
