/- The law PoolPlays, walked. -/
import Derived.Test.YtaanefkddmakeaaPoolApart
import Derived.Test.YtaanefkddmakeaaPool2
namespace Go.Proofs.Ytaanefkddmakeaa
open Go.RowKit Go.Mum

theorem len_split {α : Type} (p : α → Bool) : ∀ l : List α, l.length = (l.filter p).length + (l.filter fun a => ! p a).length
  | [] => rfl
  | a :: l => by
    have := len_split p l
    cases h : p a <;> simp [h] <;> omega

theorem unlent_eq {first : Int} {s : List Int} {n : Nat} (hn : s.Nodup) (hs : ∀ x ∈ s, first ≤ x ∧ x < first + n) : (unlent first s n : Int) = (n : Int) - s.length := by
  have h1 : (List.range n).length = ((List.range n).filter fun j : Nat => decide (first + (j : Int) ∈ s)).length + unlent first s n := by
    unfold unlent
    exact len_split _ _
  have h2 : (((List.range n).filter fun j : Nat => decide (first + (j : Int) ∈ s)).map fun j : Nat => first + (j : Int)).length = s.length := by
    apply Nat.le_antisymm
    · refine length_le_of_sub ?_ ?_
      · refine List.Pairwise.map _ ?_ (List.nodup_range.filter _)
        intro a b h e
        exact h (by omega)
      · intro x hx
        obtain ⟨j, hj, rfl⟩ := List.mem_map.1 hx
        simpa using (List.mem_filter.1 hj).2
    · refine length_le_of_sub hn fun x hx => ?_
      have := hs x hx
      refine List.mem_map.2 ⟨(x - first).toNat, List.mem_filter.2 ⟨by simp; omega, ?_⟩, by omega⟩
      rw [show first + ((x - first).toNat : Int) = x by omega]
      simpa using hx
  rw [List.length_map] at h2
  rw [List.length_range] at h1
  omega

structure Plays (W : World) (b m rb ob : Nat) (first n : Nat) (s : List Int) (tk sh : Int) (k : Nat) (w : World) : Prop where
  pool : PoolAt w b m first n s tk sh
  ref : RefAt w rb ob first n s
  tk : 0 ≤ tk ∧ tk ≤ k
  sh : 0 ≤ sh ∧ sh ≤ k
  span : ∀ x ∈ s, (first : Int) ≤ x ∧ x < first + n
  ne : ob ≠ b ∧ ob ≠ m ∧ rb ≠ b ∧ rb ≠ m
  keep : Keep [] W w
  new : W.heap.size ≤ b ∧ W.heap.size ≤ m ∧ W.heap.size ≤ rb ∧ W.heap.size ≤ ob
  bound : first ≤ 255 ∧ n ≤ 19

section
variable {W : World} {b m rb ob first n : Nat} {s : List Int} {tk sh : Int} {k : Nat} {w x : World}

theorem Plays.len (h : Plays W b m rb ob first n s tk sh k w) : s.length ≤ n := le_of_span (setNodup h.pool.2) h.span

theorem Plays.later (h : Plays W b m rb ob first n s tk sh k w) : Plays W b m rb ob first n s tk sh (k + 1) w :=
  ⟨h.pool, h.ref, ⟨h.tk.1, by have := h.tk.2; omega⟩, ⟨h.sh.1, by have := h.sh.2; omega⟩, h.span, h.ne, h.keep, h.new, h.bound⟩

theorem Plays.drewN (h : Plays W b m rb ob first n s tk sh k w) (d : Nat) : Plays W b m rb ob first n s tk sh k (w.drewN d) :=
  ⟨h.pool.keep ((Keep.refl [] w).drewN d) (by simp) (by simp), h.ref.keep ((Keep.refl [] w).drewN d) (by simp) (by simp), h.tk, h.sh, h.span, h.ne, h.keep.drewN d, h.new, h.bound⟩

/-- Both lists of lent frames turn alike. -/
theorem Plays.both {s' : List Int} {tk' sh' : Int} {m' : Nat} (h : Plays W b m rb ob first n s tk sh k w) (hP : PoolAt x b m' first n s' tk' sh') (hR : RefAt x rb ob first n s') (hK : Keep [] W x) (hm : ob ≠ m' ∧ rb ≠ m' ∧ W.heap.size ≤ m')
    (h1 : 0 ≤ tk' ∧ tk' ≤ k) (h2 : 0 ≤ sh' ∧ sh' ≤ k) (h3 : ∀ y ∈ s', (first : Int) ≤ y ∧ y < first + n) : Plays W b m' rb ob first n s' tk' sh' k x :=
  ⟨hP, hR, h1, h2, h3, ⟨h.ne.1, hm.1, h.ne.2.2.1, hm.2.1⟩, hK, ⟨h.new.1, hm.2.2, h.new.2.2.1, h.new.2.2.2⟩, h.bound⟩
end

set_option maxRecDepth 100000 in
set_option maxHeartbeats 2000000 in
theorem PoolPlays_walk (a0 : Int) (a1 : Int) (s2 : Option Addr) (len2 cap2 n2 : Nat) (w : World) (w0 : (Lit.int .u8 a0).wf = true) (w1 : (Lit.int .u8 a1).wf = true) (w2 : Fits Try.prog w maxLen n2 57 [.slice s2 len2 cap2]) :
    Calls Try.prog 9 #[.int .u8 a0, .int .u8 a1, .slice s2 len2 cap2] w fun e w' => e = .returned (.bool true) ∧ Below w.heap.size w w' := by
  have b0 := wf_u8 w0
  have b1 := wf_u8 w1
  clear w0 w1
  obtain ⟨first, rfl⟩ : ∃ p : Nat, a0 = p := ⟨a0.toNat, by omega⟩
  obtain ⟨q, rfl⟩ : ∃ p : Nat, a1 = p := ⟨a1.toNat, by omega⟩
  obtain ⟨n, hn⟩ : ∃ n : Nat, n = q % 20 := ⟨_, rfl⟩
  have hq : (q : Int) % 20 = (n : Int) := by omega
  have hfi : first ≤ 255 := by omega
  have hni : n ≤ 19 := by omega
  clear b0 b1 hn
  have hrow : len2 = 0 ∨ ∃ lb off, s2 = some ⟨lb, off, none⟩ ∧ len2 ≤ 9223372036854775807 ∧ ∀ i, i < len2 → ∃ k f : Int, w.cell? ⟨lb, off + i * 2 + 0, none⟩ = some (.int .i64 k) ∧ w.cell? ⟨lb, off + i * 2 + 1, none⟩ = some (.int .i64 f) ∧ (-9223372036854775808 ≤ f ∧ f ≤ 9223372036854775807) := by
    rcases w2.rows Try.underlying57 2 (by kernel_rfl) (by omega) with h | ⟨lb, off, mm, rfl, _, h1, h2, _, _, h3⟩
    · exact .inl h
    · refine .inr ⟨lb, off, rfl, by unfold maxLen at h2; omega, fun i hi => ?_⟩
      obtain ⟨ds, hd, hc, hf⟩ := h3 i hi
      obtain ⟨m2, hl, hfs⟩ := hf.struct Try.underlying62
      match ds, hd with
      | [d0, d1], _ =>
        obtain ⟨z0, e0, _⟩ := (hfs _ (.head _)).int Try.underlying3
        obtain ⟨z1, e1, g1⟩ := (hfs _ (.tail _ (.head _))).int Try.underlying3
        have c3 : Try.prog.cellsOf 3 = 1 := by kernel_rfl
        simp [c3] at e0 e1
        subst e0 e1
        exact ⟨z0, z1, hc 0 (by omega), hc 1 (by omega), wf_i64 g1⟩
  clear w2
  obtain ⟨i0, hi, hz0, hz1, hz2⟩ := info_parts info_bool
  go_enter Try.func9, Try.ntmps9
  go_wp2_with fail
  refine (pnew_good first n _ (by omega) (by omega) (by omega) (by omega)).mono ?_
  rintro e w1 ⟨b, m, hb, hm, rfl, hP, hK⟩
  go_wp2_with (at_make; refine wpList_make_full _ rfl _ _ 38 rfl w1.heap.size 4 i0 (.bool false) 1 Try.underlying38 hi hz0 hz1 .i64 .i64 n n n rfl rfl rfl rfl (by rw [hz2]; omega) (by unfold maxLen; omega) (Nat.le_refl _) ?_; intro w2 hown hgrow)
  generalize hx : World.alloc w2 _ = w3
  have l1 := lt_of_heap hP.1
  have l2 := hP.2.lt
  have hA0 := arrAt_of_made rfl hown
  have hk2 : Keep [] w1 w2 := (Keep.refl _ _).grown hgrow (by simp)
  have hk3 : Keep [] w2 w3 := by rw [← hx]; exact (Keep.refl _ _).alloc _
  have hsz := hK.size
  have hsz2 := hk2.size
  have hlo := hA0.lt
  have hR : Plays w b m w2.heap.size w1.heap.size first n [] 0 0 0 w3 := by
    refine ⟨(hP.keep hk2 (by simp) (by simp)).keep hk3 (by simp) (by simp), ⟨?_, by omega, ?_⟩, by omega, by omega, by simp, ⟨by omega, by omega, by omega, by omega⟩, (hK.then hk2 (by simp)).then hk3 (by simp), ⟨hb, hm, by omega, by omega⟩, ⟨hfi, hni⟩⟩
    · rw [← hx]; exact heap_alloc_new w2 _
    · exact (hA0.keep hk3 (by simp)).ext (by simp)
  clear hown hgrow hP hK hb hm hx l1 l2 hA0 hk2 hk3 hsz hsz2 hlo
  generalize w1.heap.size = ob at hR
  generalize w2.heap.size = rb at hR
  go_loopw [11, 12, 13] (fun g c i wr => ∃ (k : Nat) (m ob : Nat) (s : List Int) (tk sh : Int), i = .int .i64 k ∧ g = .int .i64 tk ∧ c = .int .i64 sh ∧ k ≤ 150 ∧ k ≤ len2 ∧ Plays w b m rb ob first n s tk sh k wr) (fun _ _ i _ => 150 - (intOf i).toNat)
  case atStart => exact ⟨0, m, ob, [], 0, 0, rfl, rfl, rfl, by omega, by omega, hR⟩
  case round =>
    clear hR
    obtain ⟨k, m, ob, s, tk, sh, rfl, rfl, rfl, hk, hkl, hR⟩ := hrel
    have htk := hR.tk
    have hsh := hR.sh
    by_cases hlt : k < len2 ∧ k < 150
    · obtain ⟨hl1, hl2⟩ := hlt
      obtain ⟨lb, off, hs2, hl64, hlb, hcell⟩ : ∃ lb off, s2 = some ⟨lb, off, none⟩ ∧ len2 ≤ 9223372036854775807 ∧ lb < w.heap.size ∧ ∃ z f : Int, wr.cell? ⟨lb, off + k * 2, none⟩ = some (.int .i64 z) ∧ wr.cell? ⟨lb, off + k * 2 + 1, none⟩ = some (.int .i64 f) ∧ (-9223372036854775808 ≤ f ∧ f ≤ 9223372036854775807) := by
        rcases hrow with h | ⟨lb, off, h1, h2, h3⟩
        · omega
        · obtain ⟨z, f, h4, h5, h6⟩ := h3 k hl1
          exact ⟨lb, off, h1, h2, World.block_lt_of_cell? w _ h5, z, f, hR.keep.cell h4 (by simp), hR.keep.cell h5 (by simp), h6⟩
      subst hs2
      obtain ⟨z, f, hz, hf, hf1, hf2⟩ := hcell
      clear hrow
      have HR := Lib.hid hR
      clear hR
      by_cases e0 : z = 0
      · subst e0
        go_wp2_with fail
        refine (ptake_at HR.out.pool (by omega) (by omega) (by omega) (by omega) (by omega) (by omega) (by omega) (by omega)).mono ?_
        rintro e x1 (⟨j, hj, hall, hno, rfl, hP', hK'⟩ | ⟨hall, rfl, hP', hK'⟩)
        · have hR1 := HR.out.ref.keep hK' (by simp; exact HR.out.ne.2.2) (by simp; exact ⟨HR.out.ne.1, HR.out.ne.2.1⟩)
          have H1 := Lib.hid (And.intro hj (And.intro hall (And.intro hno (And.intro hP' hK'))))
          clear hj hall hno hP' hK'
          go_wp2_with fail
          refine (rtake hR1 (by omega) (by omega) (by omega)).mono ?_
          rintro e x2 (⟨j2, hj2, hall2, hno2, rfl, hR2, hK2⟩ | ⟨hall2, _⟩)
          · obtain ⟨hj, hall, hno, hP', hK'⟩ := H1.out
            obtain rfl : j = j2 := by
              rcases Nat.lt_trichotomy j j2 with h | h | h
              · exact absurd (hall2 j h) hno
              · exact h
              · exact absurd (hall j2 h) hno2
            have HN : Hid (Plays w b m rb ob first n (s ++ [(first : Int) + j]) (tk + 1) sh (k + 1) x2) := Lib.hid (by
              refine HR.out.later.both (hP'.keep hK2 (by simpa using HR.out.ne.1.symm) (by simpa using HR.out.ne.2.1.symm)) hR2 ?_ ⟨HR.out.ne.2.1, HR.out.ne.2.2.2, HR.out.new.2.1⟩ (by omega) (by omega) ?_
              · have n1 := HR.out.new
                exact (HR.out.keep.then hK' (by simp; omega)).then hK2 (by simp; omega)
              · intro y hy
                rcases List.mem_append.1 hy with hy | hy
                · exact HR.out.span y hy
                · simp at hy; omega)
            clear hj hall hno hP' hK' H1 hR1 hR2 hK2 hall2 hno2 hj2
            have hlen := HN.out.len
            have HU : Hid ((unlent (first : Int) (s ++ [(first : Int) + j]) n : Int) = (n : Int) - ((s ++ [(first : Int) + j])).length) := Lib.hid (unlent_eq (setNodup HN.out.pool.2) HN.out.span)
            go_wp2_with (first | (go_at_call 19; refine (pleft_at HN.out.pool (by omega) (by omega) (by omega)).mono ?_; rintro e w8 ⟨rfl, d, rfl⟩) | (go_at_call 32; refine (rleft (HN.out.ref.keep ((Keep.refl [] _).drewN d) (by simp) (by simp)) (by omega)).mono ?_; rintro e w9 ⟨rfl, rfl⟩; rw [HU.out]))
            go_roundw
            case rel => exact ⟨k + 1, m, ob, (s ++ [(first : Int) + j]), (tk + 1), sh, by go_num, by first | rfl | go_num, by first | rfl | go_num, by omega, by omega, HN.out.drewN d⟩
            case measure => simp [intOf]; omega
          · exact absurd (hall2 j (by have := H1.out.1; omega)) H1.out.2.2.1
        · have hR1 := HR.out.ref.keep hK' (by simp; exact HR.out.ne.2.2) (by simp; exact ⟨HR.out.ne.1, HR.out.ne.2.1⟩)
          have H1 := Lib.hid (And.intro hall (And.intro hP' hK'))
          clear hall hP' hK'
          go_wp2_with fail
          refine (rtake hR1 (by omega) (by omega) (by omega)).mono ?_
          rintro e x2 (⟨j2, hj2, hall2, hno2, _⟩ | ⟨_, rfl, rfl⟩)
          · exact absurd (H1.out.1 j2 (by omega)) hno2
          · have HN : Hid (Plays w b m rb ob first n s tk (sh + 1) (k + 1) x1) := Lib.hid (by
              have n1 := HR.out.new
              exact HR.out.later.both H1.out.2.1 hR1 (HR.out.keep.then H1.out.2.2 (by simp; omega)) ⟨HR.out.ne.2.1, HR.out.ne.2.2.2, HR.out.new.2.1⟩ (by omega) (by omega) HR.out.span)
            clear H1 hR1
            have hlen := HN.out.len
            have HU : Hid ((unlent (first : Int) s n : Int) = (n : Int) - (s).length) := Lib.hid (unlent_eq (setNodup HN.out.pool.2) HN.out.span)
            go_wp2_with (first | (go_at_call 19; refine (pleft_at HN.out.pool (by omega) (by omega) (by omega)).mono ?_; rintro e w8 ⟨rfl, d, rfl⟩) | (go_at_call 32; refine (rleft (HN.out.ref.keep ((Keep.refl [] _).drewN d) (by simp) (by simp)) (by omega)).mono ?_; rintro e w9 ⟨rfl, rfl⟩; rw [HU.out]))
            go_roundw
            case rel => exact ⟨k + 1, m, ob, s, tk, (sh + 1), by go_num, by first | rfl | go_num, by first | rfl | go_num, by omega, by omega, HN.out.drewN d⟩
            case measure => simp [intOf]; omega
      · by_cases e1 : z = 1
        · subst e1
          by_cases hin : f ∈ s
          · have Hin := Lib.hid hin
            have Hsp := Lib.hid (HR.out.span f hin)
            clear hin
            have Hlb : Hid (lb ∉ [b, m] ∧ lb ∉ [ob]) := Lib.hid (by
              have n1 := HR.out.new
              refine ⟨?_, ?_⟩ <;> (simp; omega))
            go_wp2_with fail
            go_region_held3 (fun x => x.cell? ⟨lb, off + k * 2 + 1, none⟩ = some (.int .i64 f)) (first | exact hf | exact Keep.cell (w := wr.drew) (l := [b, m]) (by assumption) hf Hlb.out.1 | exact Keep.cell (l := [ob]) (by assumption) (by assumption) Hlb.out.2) (first | (go_at_call 20; refine (pgive_in (HR.out.pool.keep ((Keep.refl [] wr).drew) (by simp) (by simp)) _ Hin.out).mono ?_; rintro e w' ⟨rfl, hP', hK'⟩) | (go_at_call 30; refine (rgive_in f (HR.out.ref.keep (((Keep.refl [b, m] wr).drew).trans hK') (by simp; exact HR.out.ne.2.2) (by simp; exact ⟨HR.out.ne.1, HR.out.ne.2.1⟩)) (by omega) (by omega) (by omega) Hin.out Hsp.out.1 Hsp.out.2).mono ?_; rintro e w'' ⟨he, hR', hK2⟩; subst he))
            have HN : Hid (Plays w b m rb ob first n (s.filter (· ≠ f)) tk sh (k + 1) w'') := Lib.hid (by
              have n1 := HR.out.new
              have hK3 : Keep [b, m] wr w' := ((Keep.refl [b, m] wr).drew).trans hK'
              exact HR.out.later.both (hP'.keep hK2 (by simpa using HR.out.ne.1.symm) (by simpa using HR.out.ne.2.1.symm)) hR' ((HR.out.keep.then hK3 (by simp; omega)).then hK2 (by simp; omega)) ⟨HR.out.ne.2.1, HR.out.ne.2.2.2, HR.out.new.2.1⟩ (by omega) (by omega) (fun y hy => HR.out.span y (List.mem_filter.1 hy).1))
            clear hP' hK' hR' hK2
            have hlen := HN.out.len
            have HU : Hid ((unlent (first : Int) (s.filter (· ≠ f)) n : Int) = (n : Int) - ((s.filter (· ≠ f))).length) := Lib.hid (unlent_eq (setNodup HN.out.pool.2) HN.out.span)
            go_wp2_with (first | (go_at_call 19; refine (pleft_at HN.out.pool (by omega) (by omega) (by omega)).mono ?_; rintro e w8 ⟨rfl, d, rfl⟩) | (go_at_call 32; refine (rleft (HN.out.ref.keep ((Keep.refl [] _).drewN d) (by simp) (by simp)) (by omega)).mono ?_; rintro e w9 ⟨rfl, rfl⟩; rw [HU.out]))
            go_roundw
            case rel => exact ⟨k + 1, m, ob, (s.filter (· ≠ f)), tk, sh, by go_num, by first | rfl | go_num, by first | rfl | go_num, by omega, by omega, HN.out.drewN d⟩
            case measure => simp [intOf]; omega
          · have Hin := Lib.hid hin
            clear hin
            go_wp2_with fail
            go_quiet ((first | (go_at_call 20; exact quiet_same (pgive_out (HR.out.pool.keep ((Keep.refl [] wr).drewN _) (by simp) (by simp)) _ Hin.out)) | (go_at_call 30; exact Calls.quiet_of (rgive_out f (HR.out.ref.keep ((Keep.refl [] wr).drewN _) (by simp) (by simp)) (by omega) (by omega) (by omega) Hin.out hf1 hf2))))
            have HN : Hid (Plays w b m rb ob first n s tk sh (k + 1) (wr.drewN nq)) := Lib.hid (HR.out.later.drewN nq)
            have hlen := HN.out.len
            have HU : Hid ((unlent (first : Int) s n : Int) = (n : Int) - (s).length) := Lib.hid (unlent_eq (setNodup HN.out.pool.2) HN.out.span)
            go_wp2_with (first | (go_at_call 19; refine (pleft_at HN.out.pool (by omega) (by omega) (by omega)).mono ?_; rintro e w8 ⟨rfl, d, rfl⟩) | (go_at_call 32; refine (rleft (HR.out.ref.keep ((Keep.refl [] wr).drewN _) (by simp) (by simp)) (by omega)).mono ?_; rintro e w9 ⟨rfl, rfl⟩; rw [HU.out]))
            go_roundw
            case rel => exact ⟨k + 1, m, ob, s, tk, sh, by go_num, by first | rfl | go_num, by first | rfl | go_num, by omega, by omega, HR.out.later.drewN _⟩
            case measure => simp [intOf]; omega
        · by_cases e2 : z = 2
          · subst e2
            have hi' := Lib.hid hi
            go_wp2_with fail
            refine (preset_at HR.out.pool).mono ?_
            rintro e x1 ⟨rfl, hP', hK'⟩
            have hR1 := HR.out.ref.keep hK' (by simpa using HR.out.ne.2.2.1) (by simpa using HR.out.ne.1)
            have HP := Lib.hid (And.intro hP' (And.intro hK' hR1))
            clear hP' hK' hR1
            go_wp2_with (at_make; refine wpList_make_full _ rfl _ _ 38 rfl x1.heap.size 4 i0 (.bool false) 1 Try.underlying38 hi hz0 hz1 .i64 .i64 n n n rfl rfl rfl rfl (by rw [hz2]; omega) (by unfold maxLen; omega) (Nat.le_refl _) ?_; intro x2 hown hgrow; have HG : Hid (Keep [] x1 x2) := Lib.hid ((Keep.refl _ _).grown hgrow (by simp)); have HO := Lib.hid hown; clear hown hgrow; have cc1 := (HP.out.2.2.keep HG.out (by simp) (by simp)).cells.2; have ff1 := frozen_of (HP.out.2.2.keep HG.out (by simp) (by simp)).1 1)
            have HN : Hid (Plays w b wr.heap.size rb x1.heap.size first n [] tk sh (k + 1) (x2.setCell ⟨rb, 1, none⟩ (.slice (some ⟨x1.heap.size, 0, none⟩) n n))) := Lib.hid (by
              obtain ⟨hP', hK', hR1⟩ := HP.out
              have n1 := HR.out.new
              have lb := lt_of_heap HR.out.pool.1
              have lr := lt_of_heap HR.out.ref.1
              have lr1 := lt_of_heap hR1.1
              have sz := hK'.size
              have szW := HR.out.keep.size
              have k4 : Keep [rb] x2 (x2.setCell ⟨rb, 1, none⟩ (.slice (some ⟨x1.heap.size, 0, none⟩) n n)) := (Keep.refl _ _).setCell (.inl (by simp)) _
              have hA := arrAt_of_made rfl HO.out
              refine ⟨(hP'.keep HG.out (by simp) (by simp)).keep k4 (by simpa using HR.out.ne.2.2.1.symm) (by simp; omega), ⟨?_, by omega, ?_⟩, by omega, by omega, by simp, ⟨by omega, by have := hP'.2.lt; omega, HR.out.ne.2.2.1, by omega⟩, ((HR.out.keep.then hK' (by simp; omega)).then HG.out (by simp)).then k4 (by simp; omega), ⟨n1.1, by omega, n1.2.2.1, by omega⟩, HR.out.bound⟩
              · exact heap_set_same (HG.out.heap hR1.1 (by simp)) 1 _
              · exact (hA.keep k4 (by simp; omega)).ext (by simp))
            clear HO
            have hlen := HN.out.len
            have HU : Hid ((unlent (first : Int) [] n : Int) = (n : Int) - ([]).length) := Lib.hid (unlent_eq (setNodup HN.out.pool.2) HN.out.span)
            go_wp2_with (first | (go_at_call 19; refine (pleft_at HN.out.pool (by omega) (by omega) (by omega)).mono ?_; rintro e w8 ⟨rfl, d, rfl⟩) | (go_at_call 32; refine (rleft (HN.out.ref.keep ((Keep.refl [] _).drewN d) (by simp) (by simp)) (by omega)).mono ?_; rintro e w9 ⟨rfl, rfl⟩; rw [HU.out]))
            go_roundw
            case rel => exact ⟨k + 1, wr.heap.size, x1.heap.size, [], tk, sh, by go_num, by first | rfl | go_num, by first | rfl | go_num, by omega, by omega, HN.out.drewN d⟩
            case measure => simp [intOf]; omega
          · have HN : Hid (Plays w b m rb ob first n s tk sh (k + 1) wr) := Lib.hid HR.out.later
            have hlen := HN.out.len
            have HU : Hid ((unlent (first : Int) s n : Int) = (n : Int) - (s).length) := Lib.hid (unlent_eq (setNodup HN.out.pool.2) HN.out.span)
            go_wp2_with (first | (go_at_call 19; refine (pleft_at HN.out.pool (by omega) (by omega) (by omega)).mono ?_; rintro e w8 ⟨rfl, d, rfl⟩) | (go_at_call 32; refine (rleft (HN.out.ref.keep ((Keep.refl [] _).drewN d) (by simp) (by simp)) (by omega)).mono ?_; rintro e w9 ⟨rfl, rfl⟩; rw [HU.out]))
            go_roundw
            case rel => exact ⟨k + 1, m, ob, s, tk, sh, by go_num, by first | rfl | go_num, by first | rfl | go_num, by omega, by omega, HN.out.drewN d⟩
            case measure => simp [intOf]; omega
    · have HR := Lib.hid hR
      clear hR hrow
      by_cases hl1 : k < len2
      · have hl2 : ¬ k < 150 := fun h => hlt ⟨hl1, h⟩
        clear hlt
        go_wp2_with (first | (go_at_call 33; refine (pcounts_at HR.out.pool).mono ?_; rintro e w8 ⟨rfl, d, rfl⟩) | (go_at_call 18; refine (pworks _).mono ?_; rintro e w9 ⟨rfl, hK9⟩))
        go_ret
        exact ⟨rfl, ((HR.out.keep.drewN d).then hK9 (by simp)).below (Nat.le_refl _) (by simp)⟩
      · clear hlt
        go_wp2_with (first | (go_at_call 33; refine (pcounts_at HR.out.pool).mono ?_; rintro e w8 ⟨rfl, d, rfl⟩) | (go_at_call 18; refine (pworks _).mono ?_; rintro e w9 ⟨rfl, hK9⟩))
        go_ret
        exact ⟨rfl, ((HR.out.keep.drewN d).then hK9 (by simp)).below (Nat.le_refl _) (by simp)⟩
end Go.Proofs.Ytaanefkddmakeaa
