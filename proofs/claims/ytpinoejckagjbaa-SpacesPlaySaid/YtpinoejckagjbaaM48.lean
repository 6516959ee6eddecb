/- Contracts of the functions that the law reaches, walked, and the plain laws on them (several texts in one). -/
import Derived.Test.YtpinoejckagjbaaM47
import Derived.Test.YtpinoejckagjbaaM44
import Derived.Test.YtpinoejckagjbaaM46

/- The program's spaces and the document's in one memory. -/
namespace Go.Proofs.Ytpinoejckagjbaa
open Go.RowKit Go.Mum
set_option linter.unusedVariables false
set_option linter.unusedSimpArgs false
set_option maxRecDepth 100000

section
variable {x y : World} {q r fb g p pm most ns : Nat} {sh : Nat → Nat} {uv : Nat → Value} {T : Nat → Nat → Tab} {up : Nat → Bool} {L lent : List Int} {c : Nat} {A : QSt} {age : List Nat} {use : Bool} {kept lost : Nat} {f : Nat → Value} {ga gc : Nat} {ea : Option Addr} {ec : Nat}

theorem MAt.uvlt (h : MAt x sh uv r fb g p pm most ns T up L lent c) {z : Nat} (hz : UvIn uv up ns z) : z < x.heap.size := by
  obtain ⟨m, hm, hu, hz⟩ := hz
  obtain ⟨ua, uc, h1, h2⟩ := h.ups m hm
  rw [hu] at h1 h2
  rcases h2.row with h3 | ⟨b, o, h3, _, h5⟩
  · cases h3
  · rw [h1, h3] at hz
    simp [Value.ownBlock] at hz
    subst hz
    exact lt_of_cell (h5 0 (by decide))

/-- What is written elsewhere leaves the spaces. -/
theorem SpAt.far {l : List Nat} (h : SpAt x q r fb g p pm most ns sh uv T up L lent c A age use kept lost f ga gc ea ec) (hk : Keep l x y) (hl : ∀ z ∈ l, z ≠ ga ∧ z ∉ qNb q r fb g p pm ns sh ∧ ¬ UvIn uv up ns z ∧ ∀ o, ea ≠ some ⟨z, o, none⟩) : SpAt y q r fb g p pm most ns sh uv T up L lent c A age use kept lost f ga gc ea ec := by
  have hno : ∀ z, z ∈ qNb q r fb g p pm ns sh → z ∉ l := fun z hz hm => (hl z hm).2.1 hz
  have hq : ∀ k, k < ns → sh k ∈ qNb q r fb g p pm ns sh := fun k hk => by
    simp only [qNb, List.mem_cons, List.mem_map, List.mem_range]
    exact .inr (.inr (.inr (.inr (.inr (.inr ⟨k, hk, rfl⟩)))))
  refine ⟨h.m.keep hk ⟨hno _ (by simp [qNb]), hno _ (by simp [qNb]), hno _ (by simp [qNb]), hno _ (by simp [qNb]), hno _ (by simp [qNb])⟩ (fun k hkn => hno _ (hq k hkn)) (fun k hkn hu b hb hm => (hl b hm).2.2.1 ⟨k, hkn, hu, hb⟩), h.qq.keep hk (hno _ (by simp [qNb])) (fun hm => (hl ga hm).1 rfl) (fun _ b o hb hm => (hl b hm).2.2.2 o hb), h.us, h.nq, h.au, fun b o hb => Nat.lt_of_lt_of_le (h.eb b o hb) hk.size⟩
end

/-- The program's spaces and the document's, each in a state of its own. -/
structure HB (x : World) (W0 B q r fb g p pm most ns rb : Nat) (sh : Nat → Nat) (ga gc : Nat) (ea : Option Addr) (ec : Nat) (T : Nat → Nat → Tab) (up : Nat → Bool) (A : QSt) (age : List Nat) (use : Bool) (kept lost c : Nat) (R : RSt) (ager : List Nat) (user : Bool) (cr : Nat) : Prop where
  two : ∃ g2 c2 h2, RcAt x B rb most R ager user g2 c2 h2 cr ∧ SpX (fun z => ¬ RcW R ager rb g2 z) x q r fb g p pm most ns sh T up c A age use kept lost ga gc ea ec
  lo : ∀ k ∈ (ga :: qNb q r fb g p pm ns sh), W0 ≤ k ∧ k < B
  eb : ∀ b o, ea = some ⟨b, o, none⟩ → b < B
  wB : W0 ≤ B

section
variable {x y : World} {W0 B q r fb g p pm most ns rb : Nat} {sh : Nat → Nat} {ga gc : Nat} {ea : Option Addr} {ec : Nat} {T : Nat → Nat → Tab} {up : Nat → Bool} {A : QSt} {age : List Nat} {use : Bool} {kept lost c : Nat} {R : RSt} {ager : List Nat} {user : Bool} {cr : Nat}

theorem HB.keep0 (h : HB x W0 B q r fb g p pm most ns rb sh ga gc ea ec T up A age use kept lost c R ager user cr) (hk : Keep [] x y) : HB y W0 B q r fb g p pm most ns rb sh ga gc ea ec T up A age use kept lost c R ager user cr := by
  obtain ⟨g2, c2, h2, hr, uv, L, lent, f, hs, hv⟩ := h.two
  exact ⟨⟨g2, c2, h2, hr.keep0 hk, uv, L, lent, f, hs.keep0 hk, hv⟩, h.lo, h.eb, h.wB⟩

theorem pwl_lo (h : HB x W0 B q r fb g p pm most ns rb sh ga gc ea ec T up A age use kept lost c R ager user cr) : ∀ k ∈ pwl q ga g p pm ns sh, W0 ≤ k ∧ k < B := fun k hk => by
  refine h.lo k ?_
  simp only [pwl, qNb, List.mem_cons] at hk ⊢
  rcases hk with hk | hk | hk | hk | hk | hk
  · exact .inr (.inl hk)
  · exact .inl hk
  · exact .inr (.inr (.inr (.inr (.inl hk))))
  · exact .inr (.inr (.inr (.inr (.inr (.inl hk)))))
  · exact .inr (.inr (.inr (.inr (.inr (.inr (.inl hk))))))
  · exact .inr (.inr (.inr (.inr (.inr (.inr (.inr hk))))))

/-- A call of the program's. -/
theorem HB.prog {T' : Nat → Nat → Tab} {up' : Nat → Bool} {A' : QSt} {age' : List Nat} {use' : Bool} {kept' lost' c' : Nat} {uv : Nat → Value} (h : HB x W0 B q r fb g p pm most ns rb sh ga gc ea ec T up A age use kept lost c R ager user cr) {g2 c2 : Nat} {h2 : Value} (hr : RcAt x B rb most R ager user g2 c2 h2 cr) (hv : UvV uv up ns (fun z => ¬ RcW R ager rb g2 z)) (hs : SpX (fun z => UvIn uv up ns z ∨ x.heap.size ≤ z) y q r fb g p pm most ns sh T' up' c' A' age' use' kept' lost' ga gc ea ec) (hk : Keep (pwl q ga g p pm ns sh) x y) : HB y W0 B q r fb g p pm most ns rb sh ga gc ea ec T' up' A' age' use' kept' lost' c' R ager user cr ∧ KeepUp W0 x y := by
  have hlo := pwl_lo h
  refine ⟨⟨⟨g2, c2, h2, hr.keepLow hk (fun k hk => (hlo k hk).2), ?_⟩, h.lo, h.eb, h.wB⟩, Keep.upTo hk (fun k hk => (hlo k hk).1)⟩
  obtain ⟨uv', L', lent', f', h1, h2⟩ := hs
  refine ⟨uv', L', lent', f', h1, fun m hm hu z hz hw => ?_⟩
  rcases h2 m hm hu z hz with ⟨m', hm', hu', hz'⟩ | h3
  · exact hv m' hm' hu' z hz' hw
  · have : z < x.heap.size := by
      rcases hw with rfl | rfl | ⟨j, hj, hw⟩
      · exact lt_of_heap hr.head
      · exact (hr.own_le (.inr (.inl rfl))).2
      · exact (hr.own_le (.inr (.inr (.inr (.inr ⟨j, hj, hw⟩))))).2
    omega

/-- A call of the document's. -/
theorem HB.doc {R' : RSt} {ager' : List Nat} {user' : Bool} {cr' : Nat} (h : HB x W0 B q r fb g p pm most ns rb sh ga gc ea ec T up A age use kept lost c R ager user cr) {g2 c2 : Nat} {h2 : Value} (hr : RcAt x B rb most R ager user g2 c2 h2 cr) (hs : SpX (fun z => ¬ RcW R ager rb g2 z) x q r fb g p pm most ns sh T up c A age use kept lost ga gc ea ec) {g2' c2' : Nat} {h2' : Value} (hr' : RcAt y B rb most R' ager' user' g2' c2' h2' cr') (hk : KeepTo (RcW R ager rb g2) x y) (hw : ∀ z, RcW R' ager' rb g2' z → RcW R ager rb g2 z ∨ x.heap.size ≤ z) : HB y W0 B q r fb g p pm most ns rb sh ga gc ea ec T up A age use kept lost c R' ager' user' cr' ∧ KeepUp W0 x y := by
  have hB : ∀ z, RcW R ager rb g2 z → B ≤ z := fun z hz => by
    rcases hz with rfl | rfl | ⟨j, hj, hw⟩
    · exact hr.rbB
    · exact (hr.own_le (.inr (.inl rfl))).1
    · exact (hr.own_le (.inr (.inr (.inr (.inr ⟨j, hj, hw⟩))))).1
  refine ⟨⟨⟨g2', c2', h2', hr', ?_⟩, h.lo, h.eb, h.wB⟩, hk.mono (fun k hk => Nat.le_trans h.wB (hB k hk))⟩
  obtain ⟨uv, L, lent, f, h1, h2⟩ := hs
  obtain ⟨l, hl, hk⟩ := hk
  refine ⟨uv, L, lent, f, h1.far hk (fun z hz => ?_), fun m hm hu z hz hw' => ?_⟩
  · have hzB := hB z (hl z hz)
    refine ⟨fun e => ?_, fun hm => ?_, fun ⟨m, hm, hu, hz'⟩ => h2 m hm hu z hz' (hl z hz), fun o ho => ?_⟩
    · have := (h.lo ga (by simp)).2; omega
    · have := (h.lo z (List.mem_cons_of_mem _ hm)).2; omega
    · have := h.eb z o ho; omega
  · rcases hw z hw' with h3 | h3
    · exact h2 m hm hu z hz h3
    · have := h1.m.uvlt ⟨m, hm, hu, hz⟩
      omega

theorem HB.facts (h : HB x W0 B q r fb g p pm most ns rb sh ga gc ea ec T up A age use kept lost c R ager user cr) : age.Nodup ∧ age.length = ns ∧ (∀ k ∈ age, k < ns) ∧ (1 ≤ ns ∧ ns ≤ 8) ∧ ager.Nodup ∧ (1 ≤ ager.length ∧ ager.length ≤ 8) ∧ ∃ L lent, MInv most ns T up L lent := by
  obtain ⟨g2, c2, h2, hr, uv, L, lent, f, hs, hv⟩ := h.two
  exact ⟨hs.qq.nd, hs.qq.len, hs.qq.lt, hs.qq.ns8, hr.nd, hr.al, L, lent, hs.m.inv⟩

theorem hb_dselect (h : HB x W0 B q r fb g p pm most ns rb sh ga gc ea ec T up A age use kept lost c R ager user cr) (kp kr : Nat) (b : Bool) :
    Calls Try.prog 37 #[.pointer (some ⟨rb, 0, none⟩), .agg #[.int .u32 kp, .int .u32 kr], .bool b] x fun e y => ∃ rr R' ager', e = .returned (.bool rr) ∧ SelF R ager kp kr b rr R' ager' ∧ HB y W0 B q r fb g p pm most ns rb sh ga gc ea ec T up A age use kept lost c R' ager' true cr ∧ KeepUp W0 x y := by
  obtain ⟨g2, c2, h2, hr, hs⟩ := h.two
  refine (rfselect_at hr kp kr b).mono ?_
  rintro e y ⟨rr, R', ager', g2', c2', h2', rfl, hf, hr', hk, hg, ht⟩
  obtain ⟨a1, a2⟩ := h.doc hr hs hr' hk (fun z hz => by
    rcases hz with q | q | ⟨j, hj, q⟩
    · exact .inl (.inl q)
    · exact .inr (by omega)
    · rcases ht j hj z q with ⟨m, hm, q⟩ | q
      · exact .inl (.inr (.inr ⟨m, hm, q⟩))
      · exact .inr q)
  exact ⟨rr, R', ager', rfl, hf, a1, a2⟩

theorem hb_pselect (h : HB x W0 B q r fb g p pm most ns rb sh ga gc ea ec T up A age use kept lost c R ager user cr) (hc1 : kept ≤ 100000) (hc2 : lost ≤ 100000) (kp kr : Nat) (b : Bool) :
    Calls Try.prog 31 #[.pointer (some ⟨q, 0, none⟩), .agg #[.int .u32 kp, .int .u32 kr], .bool b] x fun e y => ∃ rr A' age' T' up' kept' lost', e = .returned (.bool rr) ∧ SelQ A age T up kept lost kp kr b rr A' age' T' up' kept' lost' ∧ HB y W0 B q r fb g p pm most ns rb sh ga gc ea ec T' up' A' age' true kept' lost' c R ager user cr ∧ KeepUp W0 x y := by
  obtain ⟨g2, c2, h2, hr, uv, L, lent, f, hs, hv⟩ := h.two
  refine (select_at hs hc1 hc2 kp kr b).mono ?_
  rintro e y ⟨rr, A', age', T', up', kept', lost', rfl, hq, hs', hk⟩
  obtain ⟨a1, a2⟩ := h.prog hr hv hs' hk
  exact ⟨rr, A', age', T', up', kept', lost', rfl, hq, a1, a2⟩

theorem hb_dput (h : HB x W0 B q r fb g p pm most ns rb sh ga gc ea ec T up A age use kept lost c R ager true cr) (hc : cr ≤ 700) (hm : most ≤ 9) (htot : totS R ager ≤ most) {i : Nat} (hi : i + 1 = ager.length) (va : Nat) (frame : Int) (bb : Nat) (hv1 : va < 4294967296) (hf1 : -9223372036854775808 ≤ frame) (hf2 : frame ≤ 9223372036854775807) (hb : bb < 4294967296) :
    Calls Try.prog 72 #[.pointer (some ⟨rb, 0, none⟩), .int .u32 va, .int .i64 frame, .int .u32 bb] x fun e y => ∃ b R', e = .returned (.bool b) ∧ PutF R ager most (ager[i]'(by omega)) va frame bb b R' ∧ HB y W0 B q r fb g p pm most ns rb sh ga gc ea ec T up A age use kept lost c R' ager true (cr + 2) ∧ KeepUp W0 x y := by
  obtain ⟨g2, c2, h2, hr, hs⟩ := h.two
  refine (rfput_at hr hc hm htot hi va frame bb hv1 hf1 hf2 hb).mono ?_
  rintro e y ⟨b, R', rfl, hf, hr', hk, ht⟩
  obtain ⟨a1, a2⟩ := h.doc hr hs hr' hk (fun z hz => ht.w hz)
  exact ⟨b, R', rfl, hf, a1, a2⟩

theorem hb_pput (h : HB x W0 B q r fb g p pm most ns rb sh ga gc ea ec T up A age true kept lost c R ager user cr) (hc : c ≤ 90000) {i : Nat} (hi : i + 1 = age.length) (va : Nat) (frame : Int) (bb : Nat) (hv1 : va < 4294967296) (hf1 : -9223372036854775808 ≤ frame) (hf2 : frame ≤ 9223372036854775807) (hb : bb < 4294967296) :
    Calls Try.prog 32 #[.pointer (some ⟨q, 0, none⟩), .int .u32 va, .int .i64 frame, .int .u32 bb] x fun e y => ∃ b T', e = .returned (.bool b) ∧ (∃ L lent, MInv most ns T up L lent ∧ PutQ most ns T up lent age (age[i]'(by omega)) va frame bb b T') ∧ HB y W0 B q r fb g p pm most ns rb sh ga gc ea ec T' up A age true kept lost (c + 2) R ager user cr ∧ KeepUp W0 x y := by
  obtain ⟨g2, c2, h2, hr, uv, L, lent, f, hs, hv⟩ := h.two
  refine (put_at hs hc hi va frame bb hv1 hf1 hf2 hb).mono ?_
  rintro e y ⟨b, T', rfl, hq, hs', hk⟩
  obtain ⟨uv', L', lent', f', h1, h2⟩ := hs'
  obtain ⟨a1, a2⟩ := h.prog hr hv ⟨uv', L', lent', f', h1, fun m hm hu z hz => .inl (h2 m hm hu z hz)⟩ hk
  exact ⟨b, T', rfl, ⟨L, lent, hs.m.inv, hq⟩, a1, a2⟩

theorem hb_dclear (h : HB x W0 B q r fb g p pm most ns rb sh ga gc ea ec T up A age use kept lost c R ager user cr) :
    Calls Try.prog 73 #[.pointer (some ⟨rb, 0, none⟩)] x fun e y => (∃ v, e = .returned v) ∧ HB y W0 B q r fb g p pm most ns rb sh ga gc ea ec T up A age use kept lost c R0 (List.range ager.length) false 0 ∧ KeepUp W0 x y := by
  obtain ⟨g2, c2, h2, hr, hs⟩ := h.two
  refine (rfclear_at hr).mono ?_
  rintro e y ⟨hv, g2', c2', h2', hr', hg, hk⟩
  obtain ⟨a1, a2⟩ := h.doc hr hs hr' (Keep.upTo hk (by intro k hk; simp only [List.mem_singleton] at hk; exact .inl hk)) (fun z hz => by
    rcases hz with q | q | ⟨j, hj, q⟩
    · exact .inl (.inl q)
    · exact .inr (by omega)
    · cases q)
  exact ⟨hv, a1, a2⟩

theorem hb_pclear (h : HB x W0 B q r fb g p pm most ns rb sh ga gc ea ec T up A age use kept lost c R ager user cr) :
    Calls Try.prog 42 #[.pointer (some ⟨q, 0, none⟩)] x fun e y => (∃ v, e = .returned v) ∧ HB y W0 B q r fb g p pm most ns rb sh ga gc ea ec (bareT T ns 8) up (A.bare ns 8) (List.range ns) false kept lost c R ager user cr ∧ KeepUp W0 x y := by
  obtain ⟨g2, c2, h2, hr, uv, L, lent, f, hs, hv⟩ := h.two
  refine (spclear_at hs).mono ?_
  rintro e y ⟨he, hs', hk⟩
  obtain ⟨uv', L', lent', f', h1, h2⟩ := hs'
  obtain ⟨a1, a2⟩ := h.prog hr hv ⟨uv', L', lent', f', h1, fun m hm hu z hz => .inl (h2 m hm hu z hz)⟩ hk
  exact ⟨he, a1, a2⟩
end
end Go.Proofs.Ytpinoejckagjbaa

/- Spaces as the laws of chapter 25 make them. -/
namespace Go.Proofs.Ytpinoejckagjbaa
open Go.RowKit Go.Mum
set_option linter.unusedVariables false
set_option linter.unusedSimpArgs false
set_option maxRecDepth 100000

/-- The directories that the laws make. -/
def dirsL (ns : Nat) : List Int := (List.range ns).map fun k : Nat => 20 + 2 * (k : Int)

theorem dirsL_len (ns : Nat) : (dirsL ns).length = ns := by simp [dirsL]
theorem dirsL_get (ns : Nat) {k : Nat} (hk : k < (dirsL ns).length) : (dirsL ns)[k] = 20 + 2 * (k : Int) := by simp [dirsL]

theorem dirsL_sort (ns : Nat) : sortI (dirsL ns) = dirsL ns := by
  unfold sortI
  refine List.mergeSort_of_pairwise ?_
  unfold dirsL
  rw [List.pairwise_map]
  exact List.pairwise_lt_range.imp (fun h => by simp only [decide_eq_true_eq]; omega)

theorem dirsL_ok {ns : Nat} (h : 1 ≤ ns) (h8 : ns ≤ 8) : dirsB (dirsL ns) 60 = true := by
  unfold dirsB apartB
  rw [dirsL_sort]
  rcases (by omega : ns = 1 ∨ ns = 2 ∨ ns = 3 ∨ ns = 4 ∨ ns = 5 ∨ ns = 6 ∨ ns = 7 ∨ ns = 8) with rfl | rfl | rfl | rfl | rfl | rfl | rfl | rfl <;> decide

theorem word_rep {a : Nat} (h : a + 4 ≤ 3840) : word4 (List.replicate 3840 (0 : Int)) a = 0 := by
  have := word_zero (L := List.replicate 3840 (0 : Int)) (p := 0) (q := a) (m := 3840) (by simp) (by omega) (by omega)
  rwa [splice_rep _ _ _ (by omega)] at this

theorem MInv.first {most ns : Nat} (hm : most ≤ 9) (hn : ns ≤ 8) : MInv most ns (fun _ _ => tab0) (fun _ => false) (List.replicate 3840 0) [] := by
  refine ⟨hm, hn, by simp, fun x hx => (by rw [List.eq_of_mem_replicate hx]; omega), fun k hk n hn' => ?_, fun k hk n hn' h => (by cases h), fun k hk n hn' h => (by cases h), fun k k' hk hk' n m hn' hm' h => (by cases h), fun k hk n hn' j hj => .inl rfl, fun k hk n hn' h j => rfl, fun k hk h => (by cases h), fun a ha => word_rep (by omega), fun z => ?_, List.nodup_nil⟩
  · rw [word_rep (by omega)]
    have : upE false n = 0 := by unfold upE upL; split <;> simp
    show (0 : Int) = if false = true then _ else _
    simp [this]
  · constructor
    · intro h; cases h
    · rintro ⟨k, n, -, -, h, -⟩; cases h

/-- What 'made' leaves. -/
def SMadeP (ns most : Nat) (w : World) (e : Ending) (y : World) : Prop :=
  ∃ B q r fb g p pm rb sh ga gc ea ec, e = .returned (.tuple #[.pointer (some ⟨r, 0, none⟩), .pointer (some ⟨q, 0, none⟩), .pointer (some ⟨p, 0, none⟩), .pointer (some ⟨rb, 0, none⟩)]) ∧
    HB y w.heap.size B q r fb g p pm most ns rb sh ga gc ea ec (fun _ _ => tab0) (fun _ => false) A0 (List.range ns) false 0 0 0 R0 (List.range ns) false 0 ∧ Keep [] w y

theorem made_hb {w y0 y1 y2 y3 : World} {r fb g p pm most ns : Nat} (hn : 1 ≤ ns ∧ ns ≤ 8) (hm : most ≤ 9) (hr : w.heap.size ≤ r ∧ w.heap.size ≤ fb ∧ w.heap.size ≤ g) (hp : y0.heap.size ≤ p ∧ y0.heap.size ≤ pm) (hw0 : Keep [] w y0) (hR : RamAt y0 r fb g (List.range 60) (List.replicate 3840 0)) (hP : PoolAt y1 p pm 40 most [] 0 0) (h01 : Keep [] y0 y1)
    {q : Nat} {sh : Nat → Nat} {f : Nat → Value} {ga gc : Nat} {ea : Option Addr} {ec : Nat}
    (hQ : QAt y2 q r fb g p pm (dirsL ns).length sh A0 (List.range (dirsL ns).length) false 0 0 f ga gc ea ec upW) (hS : ∀ k (hk : k < (dirsL ns).length), ShAt y2 (sh k) r p (dirsL ns)[k] (fun _ => tab0)) (hR2 : RamAt y2 r fb g (List.range 60) (List.replicate 3840 0))
    (ho : (y1.heap.size ≤ q ∧ q < ga) ∧ (∀ k, k < (dirsL ns).length → q < sh k) ∧ (∀ i j, i < (dirsL ns).length → j < (dirsL ns).length → i ≠ j → sh i ≠ sh j) ∧ (∀ b o, ea = some ⟨b, o, none⟩ → b < y2.heap.size)) (h12 : Keep [g] y1 y2)
    {rb g2 c2 : Nat} {h2 : Value} (hD : RcAt y3 y2.heap.size rb most R0 (List.range ns) false g2 c2 h2 0) (h23 : Keep [] y2 y3) :
    HB y3 w.heap.size y2.heap.size q r fb g p pm most ns rb sh ga gc ea ec (fun _ _ => tab0) (fun _ => false) A0 (List.range ns) false 0 0 0 R0 (List.range ns) false 0 ∧ Keep [] w y3 := by
  rw [dirsL_len] at hQ ho
  have s0 := hw0.size
  have s1 := h01.size
  have s2 := h12.size
  obtain ⟨_, e1, _⟩ := hR.head
  obtain ⟨_, e2, _⟩ := hR.rows
  have l1 := lt_of_heap e1
  have l2 := lt_of_heap e2
  have l3 := lt_of_heap hR.data
  have l4 := lt_of_heap hP.1
  have l5 := hP.2.lt
  have hg2 := hQ.ageCell
  obtain ⟨-, -, -, cu, hcu⟩ := hg2
  have l6 := lt_of_heap hcu
  have hpool : PoolAt y2 p pm 40 most [] 0 0 := hP.keep h12 (by simp; omega) (by simp; omega)
  have hns : ∀ k, k < ns → q < sh k ∧ sh k < y2.heap.size := fun k hk => ⟨ho.2.1 k hk, hQ.ltb _ (by simp only [qNb, List.mem_cons, List.mem_map, List.mem_range]; exact .inr (.inr (.inr (.inr (.inr (.inr ⟨k, hk, rfl⟩))))))⟩
  have hql := hQ.ltb q (by simp [qNb])
  have hsa : SpAt y2 q r fb g p pm most ns sh (fun _ => .slice none 0 0) (fun _ _ => tab0) (fun _ => false) (List.replicate 3840 0) [] 0 A0 (List.range ns) false 0 0 f ga gc ea ec := by
    refine ⟨⟨fun k hk => ?_, fun k hk => ⟨none, 0, rfl, by simp [upL], by simp [upL], .inl rfl⟩, hR2, MInv.first hm hn.2, ⟨0, 0, hpool, by omega⟩, ⟨fun k hk => ?_, fun i j hi hj hij => ho.2.2.1 i j hi hj hij, by omega⟩⟩, hQ, fun _ _ => rfl, ?_, fun k hk h => (by cases h), ho.2.2.2⟩
    · have := hS k (by rw [dirsL_len]; exact hk)
      rw [dirsL_get] at this
      have := this.u
      rwa [show (20 : Int) + 2 * (k : Int) = ((20 + 2 * k : Nat) : Int) by omega] at this
    · have := hns k hk; omega
    · simp only [List.mem_cons, List.mem_map, List.mem_range, not_or, not_exists, not_and]
      refine ⟨by omega, by omega, by omega, by omega, by omega, fun k hk e => ?_⟩
      have := hns k hk; omega
  refine ⟨⟨⟨g2, c2, h2, hD, _, _, _, _, hsa.keep0 h23, fun m hm h => (by cases h)⟩, fun k hk => ?_, ho.2.2.2, by omega⟩, ?_⟩
  · simp only [qNb, List.mem_cons, List.mem_map, List.mem_range] at hk
    rcases hk with e | e | e | e | e | e | e | ⟨k, hk, e⟩
    · omega
    · omega
    · omega
    · omega
    · omega
    · omega
    · omega
    · have := hns k hk; omega
  · exact ((hw0.trans h01).then h12 (by simp; omega)).trans h23

theorem up_row {w : World} {b : Nat} {t : TypeId} (h : w.heap[b]? = some (.cells #[.int .u32 7, .int .u32 71, .int .u32 0, .int .u32 133] t (0, 0))) : UpR w (some ⟨b, 0, none⟩) upW [] := by
  refine ⟨by decide, by decide, .inr ⟨b, 0, rfl, by simp, fun k hk => ?_⟩⟩
  have hk' : k < 4 := hk
  rcases (by omega : k = 0 ∨ k = 1 ∨ k = 2 ∨ k = 3) with rfl | rfl | rfl | rfl
  · exact cell_of h 0 rfl
  · exact cell_of h 1 rfl
  · exact cell_of h 2 rfl
  · exact cell_of h 3 rfl

theorem results_tmp4 {fn : Func} {t u v z : Tmp} (h : fn.results = #[.tmp t, .tmp u, .tmp v, .tmp z]) (tmps : Array Value) (P : Program) (w : World) :
    (results fn tmps).run P w = .ok (.tuple #[tmps.getD t undef, tmps.getD u undef, tmps.getD v undef, tmps.getD z undef]) w := by
  simp [results, h]

set_option maxHeartbeats 4000000 in
theorem spmade_at (n mo : Nat) (hn : n < 256) (hm : mo < 256) (w : World) : Calls Try.prog 28 #[.int .u8 n, .int .u8 mo] w (SMadeP (1 + n % 8) (mo % 10) w) := by
  obtain ⟨most, hmo⟩ : ∃ m, m = mo % 10 := ⟨_, rfl⟩
  obtain ⟨ns, hns⟩ : ∃ m, m = 1 + n % 8 := ⟨_, rfl⟩
  have t1 : ((mo : Int)).tmod 10 = (most : Int) := by rw [Int.tmod_eq_emod_of_nonneg (by omega)]; omega
  have u1 : (mo : Int) % 10 = (most : Int) := by omega
  have t2 : IntKind.i64.wrap (most : Int) = (most : Int) := IntWalk.i64_in _ (by omega)
  obtain ⟨n8, hn8⟩ : ∃ m, m = n % 8 := ⟨_, rfl⟩
  have v1 : ((n : Int)).tmod 8 = (n8 : Int) := by rw [Int.tmod_eq_emod_of_nonneg (by omega)]; omega
  have v2 : (n : Int) % 8 = (n8 : Int) := by omega
  have v3 : IntKind.i64.wrap (n8 : Int) = (n8 : Int) := IntWalk.i64_in _ (by omega)
  have v4 : (1 : Int) + (n8 : Int) = (ns : Int) := by omega
  have v5 : IntKind.i64.wrap (ns : Int) = (ns : Int) := IntWalk.i64_in _ (by omega)
  have hm9 : most ≤ 9 := by omega
  have hn18 : 1 ≤ ns ∧ ns ≤ 8 := by omega
  rw [← hmo, ← hns]
  clear hmo hns hn8
  obtain ⟨j0, hj0, hy0, hy1, hy2⟩ := info_parts info_int'
  go_enter Try.func28, Try.ntmps28
  go_wp2_with fail
  refine (rnew_good 60 _ (by omega) (by omega)).mono ?_
  rintro e y ⟨r, fb, g, hr, hfb, hg, rfl, hA, hk⟩
  have H1 : Hid (RamAt y r fb g (List.range 60) (List.replicate 3840 0) ∧ Keep [] w y ∧ (w.heap.size ≤ r ∧ w.heap.size ≤ fb ∧ w.heap.size ≤ g)) := Lib.hid ⟨hA, hk, hr, hfb, hg⟩
  clear hA hk hr hfb hg
  go_wp2_with fail
  refine (pnew_good 40 most _ (by omega) (by omega) (by omega) (by omega)).mono ?_
  rintro e z2 ⟨p, pm, hp, hpm, rfl, hP, hk2⟩
  have H2 : Hid (PoolAt z2 p pm 40 most [] 0 0 ∧ Keep [] y z2 ∧ y.heap.size ≤ p ∧ y.heap.size ≤ pm) := Lib.hid ⟨hP, hk2, hp, hpm⟩
  clear hP hk2 hp hpm
  go_wp2_with fail
  go_loopw [12, 13] (fun lv0 kv wr => ∃ (k : Nat) (lv : Value), lv = lv0 ∧ kv = .int .i64 k ∧ k ≤ ns ∧ Hid (wr.ownsRow z2.heap.size 3 1 lv k ((dirsL k).map (Value.int .i64)) ∧ Keep [] z2 wr)) (fun _ kv _ => ns - (intOf kv).toNat)
  case atStart => exact ⟨0, _, rfl, rfl, by omega, Lib.hid ⟨World.ownsRow_nil _ _ _ _, Keep.refl _ _⟩⟩
  case round =>
    obtain ⟨k, lv, rfl, rfl, hk1, HJ⟩ := hrel
    rename World => wo
    by_cases hkl : k < ns
    · have hk0 : (0 : Int) ≤ (k : Int) := by omega
      have hk3 : (k : Int) < (ns : Int) := by omega
      have hrow := HJ.out.1
      have hszz := HJ.out.2.size
      have w1 : IntKind.i64.wrap (2 * (k : Int)) = 2 * (k : Int) := IntWalk.i64_in _ (by omega)
      have w2 : IntKind.i64.wrap (20 + 2 * (k : Int)) = 20 + 2 * (k : Int) := IntWalk.i64_in _ (by omega)
      obtain ⟨la, lc, rfl⟩ := own_form hrow
      have HAP : Hid (∀ v' w3, w3.ownsRow z2.heap.size 3 1 v' (k + 1) ((dirsL k).map (Value.int .i64) ++ [.int .i64 (20 + 2 * (k : Int))]) → (wo.alloc (.cells #[.int .i64 (20 + 2 * (k : Int))] 3)).grownBy w3 (Value.slice la k lc).ownBlock → Hid (w3.ownsRow z2.heap.size 3 1 v' (k + 1) ((dirsL (k + 1)).map (Value.int .i64)) ∧ Keep [] z2 w3)) := Lib.hid (fun v' w3 ho hgr => Lib.hid ⟨by
        unfold dirsL at ho ⊢
        rw [List.range_succ, List.map_append, List.map_append]; exact ho, grow_keep (Nat.le_refl _) HJ.out.2 hrow hgr⟩)
      clear HJ
      go_wp2_with (at_builtin; refine wpList_append_own _ rfl _ _ 81 rfl z2.heap.size 3 j0 (.int .i64 0) 1 8 Try.underlying81 hj0 hy0 hy1 hy2 rfl (by decide) _ _ _ rfl (hrow.alloc _) ⟨wo.heap.size, 0, none⟩ 1 1 [.int .i64 (20 + 2 * (k : Int))] rfl rfl (cell_one_new _ _ _) (by simp [Value.oneCell']) (by unfold maxLen; omega) (by omega) (by simp; omega) ?_; intro v' w3 hown' hgrow _; have HG := HAP.out v' w3 hown' hgrow; clear hown' hgrow)
      go_roundw
      case rel => exact ⟨k + 1, _, rfl, by go_num, by omega, HG⟩
      case measure => simp [intOf]; omega
    · have hkn : k = ns := by omega
      subst hkn
      have hk3 : ¬ ((k : Int) < (k : Int)) := by omega
      obtain ⟨la, lc, rfl⟩ := own_form HJ.out.1
      have hl : (dirsL k).length = k := dirsL_len k
      have hb4 : Hid (∀ o, Keep [] z2 (wo.alloc o)) := Lib.hid (fun o => HJ.out.2.alloc o)
      obtain ⟨bu, hbu⟩ : ∃ b, b = wo.heap.size := ⟨_, rfl⟩
      clear hkl hk1
      go_wp2_with fail
      rw [← hbu]
      generalize hy4 : World.alloc wo _ = y4
      have hky : Keep [] z2 y4 := by rw [← hy4]; exact hb4.out _
      have hup : UpR y4 (some ⟨bu, 0, none⟩) upW [] := up_row (t := 22) (by rw [← hy4]; exact heap_alloc_at _ hbu)
      have hdr : DirsAt y4 la (dirsL k) := by
        right
        obtain ⟨gd, rfl, hcd⟩ := own_some HJ.out.1 (by omega)
        have hlt := (own_block HJ.out.1 (g := gd) rfl).2
        have hwy : Keep [] wo y4 := by rw [← hy4]; exact (Keep.refl _ _).alloc _
        refine ⟨gd, 0, rfl, Nat.lt_of_lt_of_le hlt hwy.size, fun i hi => ?_⟩
        rw [Nat.zero_add]
        refine hwy.cell ?_ (by simp)
        rw [dirsL_len] at hi
        rw [hcd i (by omega), List.getElem?_map, List.getElem?_eq_getElem (by rw [dirsL_len]; exact hi)]
        rfl
      have hpl : p < y4.heap.size ∧ pm < y4.heap.size := ⟨Nat.lt_of_lt_of_le (lt_of_heap H2.out.1.1) hky.size, Nat.lt_of_lt_of_le H2.out.1.2.lt hky.size⟩
      have CN := Lib.hid (spnew_at (pm := pm) (s := la) (cap := lc) (uc := 4) (H1.out.1.keep0 (H2.out.2.1.trans hky)) (by omega) hpl (by omega) (by omega) hdr hup)
      rw [hl, show upW.length = 4 from rfl] at CN
      have HKY := Lib.hid hky
      clear hy4 hbu hky hup hdr hpl HJ hb4
      refine CN.out.mono ?_
      rintro e y5 (⟨hbad, -⟩ | ⟨-, q, sh, f, ga, gc, ea, ec, rfl, hQ, hS, hR5, ho, hk5⟩)
      · rw [dirsL_ok hn18.1 hn18.2] at hbad; cases hbad
      have H5 := Lib.hid (And.intro hQ (And.intro hS (And.intro hR5 (And.intro ho hk5))))
      clear hQ hS hR5 ho hk5 CN
      go_wp2_with fail
      refine (rfnew_at k most y5 hn18.1 hn18.2).mono ?_
      rintro e y6 ⟨rb, g2, c2, h2, rfl, hrb, hk6, hD⟩
      have HF : Hid (SMadeP k most w (.returned (.tuple #[.pointer (some ⟨r, 0, none⟩), .pointer (some ⟨q, 0, none⟩), .pointer (some ⟨p, 0, none⟩), .pointer (some ⟨rb, 0, none⟩)])) y6) := Lib.hid ⟨_, q, r, fb, g, p, pm, rb, sh, ga, gc, ea, ec, rfl, made_hb hn18 hm9 H1.out.2.2 ⟨H2.out.2.2.1, H2.out.2.2.2⟩ H1.out.2.1 H1.out.1 (H2.out.1.keep HKY.out (by simp) (by simp)) (H2.out.2.1.trans HKY.out) H5.out.1 H5.out.2.1 H5.out.2.2.1 H5.out.2.2.2.1 H5.out.2.2.2.2 (hD _ (Nat.le_refl _)) hk6⟩
      clear hrb hk6 hD
      go_wp2_with fail
      (try simp only [Exit.inBlock, Exit.then])
      refine bodyPost_ret (results_tmp4 rfl _ _ _) rfl ?_
      exact HF.out
end Go.Proofs.Ytpinoejckagjbaa
