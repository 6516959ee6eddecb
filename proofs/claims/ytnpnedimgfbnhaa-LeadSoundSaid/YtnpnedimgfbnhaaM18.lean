/- Contracts of the functions that the law reaches, walked, and the plain laws on them (several texts in one). -/
import Derived.Outline
import Derived.Test.YtnpnedimgfbnhaaM17
import Derived.Test.YtnpnedimgfbnhaaM15

/- A guest's memory as it is laid, walked. -/
namespace Go.Proofs.Ytnpnedimgfbnhaa
open Go.RowKit Go.Mum
set_option linter.unusedVariables false
set_option maxRecDepth 100000

theorem row_cell_at {w : World} {a : Option Addr} {c : Nat} {L : List Int} (h : Row w a c L) {j : Nat} (hj : j < L.length) : ∃ b off, a = some ⟨b, off, none⟩ ∧ w.cell? ⟨b, off + j, none⟩ = some (.int .u8 (L.getD j 0)) ∧ 0 ≤ L.getD j 0 ∧ L.getD j 0 < 256 := by
  have hb := u8_byte h.bytes hj
  rcases h.at' with ⟨hh, h0, _⟩ | ⟨rfl, _⟩ | ⟨b, off, rfl, hc⟩
  · subst h0; simp at hj
  · simp at hj
  · exact ⟨b, off, rfl, hc j hj, hb⟩

set_option maxHeartbeats 8000000 in
theorem laid_at (fr en : Int) (is cs ss ds : Option Addr) (ic cl cc sl sc dl dc : Nat) (IL : List Int) (f : Nat → Value) (ps cr : Int) (w : World) (hI : Row w is ic IL) (hC : InsIn w cs cl) (hil : IL.length ≤ 9223372036854775807) (he0 : 0 ≤ en) (he1 : en ≤ 65535) :
    Calls Try.prog 23 #[.agg #[.int .i64 fr, .slice is IL.length ic, .slice cs cl cc, .int .u16 en, f 0, f 1, f 2, f 3, f 4, f 5, f 6, f 7, f 8, .int .u32 ps, .int .u32 cr, f 11, f 12, f 13, f 14, f 15, f 16, f 17, f 18, .slice ss sl sc, .slice ds dl dc]] w (LaidPost w) := by
  obtain ⟨n, hn, hn1, hn2⟩ : ∃ n : Nat, (1 : Int) + wrap64 ((IntKind.u64.wrap fr).tmod 24) = (n : Int) ∧ 1 ≤ n ∧ n ≤ 24 := by
    have h0 : 0 ≤ IntKind.u64.wrap fr := by rw [IntKind.wrap_u64]; omega
    rw [Int.tmod_eq_emod_of_nonneg h0]
    have h2 := Int.emod_nonneg (IntKind.u64.wrap fr) (b := 24) (by omega)
    have h3 := Int.emod_lt_of_pos (IntKind.u64.wrap fr) (b := 24) (by omega)
    generalize IntKind.u64.wrap fr % 24 = r at h2 h3
    refine ⟨(1 + r).toNat, ?_, by omega, by omega⟩
    unfold wrap64
    omega
  obtain ⟨en, rfl⟩ : ∃ e : Nat, en = e := ⟨en.toNat, by omega⟩
  have HI := Lib.hid hI
  have HC := Lib.hid hC
  have hmk := make_u8 (64 * n) (by omega) ((n : Int) * 64) (by omega)
  clear hI hC
  obtain ⟨sz, hsz⟩ : ∃ sz, sz = w.heap.size := ⟨_, rfl⟩
  go_enter Try.func23, Try.ntmps23
  go_wp2_with fail
  rw [← hsz]
  generalize hy : World.alloc (World.alloc w _) _ = y0
  have H0 : Hid (LB w (sz + 1) n y0 ∧ y0.cell? ⟨sz, 1, none⟩ = some (.slice is IL.length ic) ∧ y0.cell? ⟨sz, 2, none⟩ = some (.slice cs cl cc) ∧ y0.cell? ⟨sz, 3, none⟩ = some (.int .u16 en) ∧ w.heap.size = sz ∧ sz + 1 < y0.heap.size) := Lib.hid (by
    subst hy
    subst hsz
    have k1 := fun {a v} (h : (w.alloc (.cells #[.int .i64 fr, .slice is IL.length ic, .slice cs cl cc, .int .u16 en, f 0, f 1, f 2, f 3, f 4, f 5, f 6, f 7, f 8, .int .u32 ps, .int .u32 cr, f 11, f 12, f 13, f 14, f 15, f 16, f 17, f 18, .slice ss sl sc, .slice ds dl dc] 46)).cell? a = some v) (o : Obj) => ((Keep.refl [] _).alloc o).cell h (by simp)
    refine ⟨⟨List.replicate (64 * n) 0, heap_alloc_at _ (by simp), by simp, by intro x hx; rw [List.eq_of_mem_replicate hx]; omega, ((Keep.refl _ _).alloc _).alloc _⟩, k1 (cell_of (heap_alloc_same w _) 1 rfl) _, k1 (cell_of (heap_alloc_same w _) 2 rfl) _, k1 (cell_of (heap_alloc_same w _) 3 rfl) _, rfl, by simp⟩)
  clear hy hsz hmk
  have HB : Hid (∀ x, Keep [sz + 1] y0 x → x.cell? ⟨sz, 1, none⟩ = some (.slice is IL.length ic) ∧ x.cell? ⟨sz, 2, none⟩ = some (.slice cs cl cc) ∧ x.cell? ⟨sz, 3, none⟩ = some (.int .u16 en)) := Lib.hid (fun x hx => ⟨hx.cell H0.out.2.1 (by simp), hx.cell H0.out.2.2.1 (by simp), hx.cell H0.out.2.2.2.1 (by simp)⟩)
  go_loopw [6] (fun kv wr => ∃ k : Nat, kv = .int .i64 k ∧ k ≤ 64 * n ∧ Hid (LB w (sz + 1) n wr ∧ Keep [sz + 1] y0 wr)) (fun kv _ => 64 * n - (intOf kv).toNat)
  case atStart => exact ⟨0, rfl, by omega, Lib.hid ⟨H0.out.1, Keep.refl _ _⟩⟩
  case round =>
    obtain ⟨k, rfl, hk, HR⟩ := hrel
    obtain ⟨b1, b2, b3⟩ := HB.out wr HR.out.2
    by_cases hlt : k < IL.length ∧ k < 64 * n
    · obtain ⟨hl1, hl2⟩ := hlt
      have hkw : Keep [] w wr := by obtain ⟨_, _, _, _, h⟩ := HR.out.1; exact h
      obtain ⟨ib, io, rfl, hic, hv0, hv1⟩ := row_cell_at (HI.out.keep0 hkw) hl1
      obtain ⟨z, hz1, hz2⟩ := HR.out.1.cell hl2
      have HN : Hid (LB w (sz + 1) n (wr.setCell ⟨sz + 1, k, none⟩ (.int .u8 (IL.getD k 0))) ∧ Keep [sz + 1] y0 (wr.setCell ⟨sz + 1, k, none⟩ (.int .u8 (IL.getD k 0)))) := Lib.hid ⟨HR.out.1.set (by have := H0.out.2.2.2.2.1; omega) ⟨hv0, hv1⟩, HR.out.2.setCell (.inl (by simp)) _⟩
      have hl2' : (k : Int) < 64 * (n : Int) := by omega
      generalize IL.getD k 0 = q at *
      clear hkw
      go_wp2_with fail
      go_roundw
      case rel => exact ⟨k + 1, by go_num, by omega, HN⟩
      case measure => simp [intOf]; omega
    · have hex : ¬ ((k : Int) < (IL.length : Int)) ∨ (k : Int) < (IL.length : Int) ∧ ¬ ((k : Int) < 64 * (n : Int)) := by omega
      clear hlt
      rcases hex with hx | ⟨hx, hx2⟩
      all_goals
        clear b1 b2 b3
        rename World => wa
        obtain ⟨b1, b2, b3⟩ := HB.out wa HR.out.2
        go_wp2_with fail
        clear hx
        go_loopw [7, 8] (fun av kv wr => ∃ (k2 a1 : Nat), kv = .int .i64 k2 ∧ av = .int .i64 a1 ∧ k2 ≤ 200 ∧ a1 ≤ 65535 + 6 * k2 ∧ Hid (LB w (sz + 1) n wr ∧ Keep [sz + 1] y0 wr)) (fun _ kv _ => 200 - (intOf kv).toNat)
        case atStart => exact ⟨0, en, rfl, rfl, by omega, by omega, HR⟩
        case round =>
          clear b1 b2 b3 HR
          obtain ⟨k2, a1, rfl, rfl, hk2, ha1, HR⟩ := hrel
          rename World => wo
          obtain ⟨b1, b2, b3⟩ := HB.out wo HR.out.2
          by_cases hlt : k2 < cl ∧ k2 < 200
          · obtain ⟨hl1, hl2⟩ := hlt
            obtain ⟨lb, off, rfl, hcl, op, ia, ib2, imm, ⟨o0, o1⟩, ⟨o2, o3⟩, ⟨o4, o5⟩, ⟨o6, o7⟩, i0, i1, i2, i3⟩ : ∃ lb off, cs = some ⟨lb, off, none⟩ ∧ cl ≤ 9223372036854775807 ∧ ∃ op a b imm : Int, (0 ≤ op ∧ op < 256) ∧ (0 ≤ a ∧ a < 256) ∧ (0 ≤ b ∧ b < 256) ∧ (-2147483648 ≤ imm ∧ imm ≤ 2147483647) ∧
                w.cell? ⟨lb, off + k2 * 4, none⟩ = some (.int .u8 op) ∧ w.cell? ⟨lb, off + k2 * 4 + 1, none⟩ = some (.int .u8 a) ∧ w.cell? ⟨lb, off + k2 * 4 + 2, none⟩ = some (.int .u8 b) ∧ w.cell? ⟨lb, off + k2 * 4 + 3, none⟩ = some (.int .i32 imm) := by
              rcases HC.out with h | ⟨lb, off, h1, h2, h3⟩
              · omega
              · exact ⟨lb, off, h1, h2, h3 k2 hl1⟩
            have hkw : Keep [] w wo := by obtain ⟨_, _, _, _, h⟩ := HR.out.1; exact h
            have HI4 := Lib.hid (fun x (hx : Keep [] wo x) => And.intro ((hkw.trans hx).cell i0 (by simp)) (And.intro ((hkw.trans hx).cell i1 (by simp)) (And.intro ((hkw.trans hx).cell i2 (by simp)) ((hkw.trans hx).cell i3 (by simp)))))
            obtain ⟨c0, c1, c2, c3⟩ := HI4.out wo (Keep.refl _ _)
            clear i0 i1 i2 i3 hkw
            go_wp2_with fail
            refine (imay_at op ia ib2 imm o0 o1 o2 o3 o4 o5 o6 o7 _).mono ?_
            rintro e w2 ⟨q, rfl, hm⟩
            have HM := Lib.hid (show LB w (sz + 1) n w2 ∧ Keep [sz + 1] y0 w2 ∧ Keep [] wo w2 from ⟨HR.out.1.keep hm, HR.out.2.trans (hm.weaken (by simp)), hm⟩)
            clear hm c0 c1 c2 c3 b1 b2 b3
            obtain ⟨b1, b2, b3⟩ := HB.out w2 HM.out.2.1
            obtain ⟨c0, c1, c2, c3⟩ := HI4.out w2 HM.out.2.2
            cases q
            · go_wp2_with fail
              go_roundw
              case rel => exact ⟨k2 + 1, a1, by go_num, rfl, by omega, by omega, Lib.hid ⟨HM.out.1, HM.out.2.1⟩⟩
              case measure => simp [intOf]; omega
            · go_wp2_with fail
              refine (ienc_at op ia ib2 imm o0 o1 o2 o3 o4 o5 o6 o7 _).mono ?_
              rintro e w3 ⟨v, M, rfl, hO, hM6, hm⟩
              obtain ⟨va, vc, rfl, hRow⟩ := hO.shape
              have HN := Lib.hid (show LB w (sz + 1) n w3 ∧ Keep [sz + 1] y0 w3 ∧ Row w3 va vc M ∧ (∀ b, va = some b → b.block ∉ [sz + 1]) from ⟨HM.out.1.keep hm, HM.out.2.1.trans (hm.weaken (by simp)), hRow, fun b hb => by
                have h1 := hO.block b.block (by simp [Value.ownBlock, hb])
                have h2 := HM.out.2.1.size
                have h3 := H0.out.2.2.2.2.2
                simp
                omega⟩)
              clear hm c0 c1 c2 c3 b1 b2 b3 hO hRow
              go_wp2_with fail
              go_loopw [7, 10] (fun av jv wr => ∃ (j a2 : Nat), jv = .int .i64 j ∧ av = .int .i64 a2 ∧ j ≤ M.length ∧ a2 ≤ a1 + j ∧ Hid (LB w (sz + 1) n wr ∧ Keep [sz + 1] y0 wr ∧ Row wr va vc M)) (fun _ jv _ => M.length - (intOf jv).toNat)
              case atStart => exact ⟨0, a1, rfl, rfl, by omega, by omega, Lib.hid ⟨HN.out.1, HN.out.2.1, HN.out.2.2.1⟩⟩
              case round =>
                obtain ⟨j, a2, rfl, rfl, hj, ha2, HR3⟩ := hrel
                by_cases hjl : j < M.length
                · obtain ⟨rb, ro, rfl, hrc, hv0, hv1⟩ := row_cell_at HR3.out.2.2 hjl
                  generalize M.getD j 0 = z at hrc hv0 hv1
                  by_cases hin : a2 < 64 * n
                  · obtain ⟨z2, hz1, hz2⟩ := HR3.out.1.cell hin
                    have HN2 := Lib.hid (show LB w (sz + 1) n (wr.setCell ⟨sz + 1, a2, none⟩ (.int .u8 z)) ∧ Keep [sz + 1] y0 (wr.setCell ⟨sz + 1, a2, none⟩ (.int .u8 z)) ∧ Row (wr.setCell ⟨sz + 1, a2, none⟩ (.int .u8 z)) (some ⟨rb, ro, none⟩) vc M from ⟨HR3.out.1.set (by have := H0.out.2.2.2.2.1; omega) ⟨hv0, hv1⟩, HR3.out.2.1.setCell (.inl (by simp)) _, HR3.out.2.2.keep ((Keep.refl [sz + 1] wr).setCell (.inl (by simp)) _) HN.out.2.2.2⟩)
                    have hin' : (a2 : Int) < 64 * (n : Int) := by omega
                    go_wp2_with fail
                    go_roundw
                    case rel => exact ⟨j + 1, a2 + 1, by go_num, by go_num, by omega, by omega, HN2⟩
                    case measure => simp [intOf]; omega
                  · have hin' : ¬ (a2 : Int) < 64 * (n : Int) := by omega
                    go_wp2_with fail
                    go_roundw
                    case rel => exact ⟨j + 1, a2 + 1, by go_num, by go_num, by omega, by omega, HR3⟩
                    case measure => simp [intOf]; omega
                · go_wp2_with fail
                  go_roundw
                  case rel => exact ⟨k2 + 1, a2, by go_num, rfl, by omega, by omega, Lib.hid ⟨HR3.out.1, HR3.out.2.1⟩⟩
                  case measure => simp [intOf]; omega
          · have hex : ¬ ((k2 : Int) < (cl : Int)) ∨ (k2 : Int) < (cl : Int) ∧ ¬ ((k2 : Int) < 200) := by omega
            clear hlt
            have HF : Hid (LaidPost w (.returned (.tuple #[.slice (some ⟨sz + 1, 0, none⟩) (64 * n) (64 * n), .int .i64 n])) wo) := Lib.hid (by
              obtain ⟨L, h1, h2, h3, h4⟩ := HR.out.1
              exact ⟨sz + 1, n, L, rfl, hn1, hn2, h1, h2, h3, by have := H0.out.2.2.2.2.1; omega, h4⟩)
            rcases hex with hx | ⟨hx, hx2⟩
            all_goals
              go_wp2_with fail
              go_ret2
              exact HF.out
end Go.Proofs.Ytnpnedimgfbnhaa

/- The document's verdict: is a frame watched; two verdicts held against each other. -/
namespace Go.Proofs.Ytnpnedimgfbnhaa
open Go.RowKit Go.Mum
set_option linter.unusedVariables false
set_option maxRecDepth 100000

/-- The document's marks as they are asked. -/
def DWat (w : World) (mv : Value) (W : Int → Bool) : Prop := ∀ x, Keep [] w x → ∀ f : Int, Calls Try.prog 35 #[mv, .int .i64 f] x (BoolPost (W f) x)

theorem DWat.keep0 {w x : World} {mv : Value} {W : Int → Bool} (h : DWat w mv W) (hk : Keep [] w x) : DWat x mv W := fun y hy => h y (hk.trans hy)

set_option maxHeartbeats 1000000 in
theorem rwatched_at {w : World} {c t n : Nat} {s1 s2 : List Int} (h : RMarks w c t n s1 s2) (f : Int) :
    Calls Try.prog 35 #[rval c t n, .int .i64 f] w (BoolPost (rhas n f 1 s1 s2 || rhas n f 2 s1 s2) w) := by
  have C1 := Lib.hid (fun x (hx : Keep [] w x) => rhas_at (h.keep hx (by simp) (by simp)) f 1)
  have C2 := Lib.hid (fun x (hx : Keep [] w x) => rhas_at (h.keep hx (by simp) (by simp)) f 2)
  have hK := Lib.hid (fun o => (Keep.refl [] w).alloc o)
  unfold rval at C1 C2 ⊢
  clear h
  generalize rhas n f 1 s1 s2 = q1 at C1
  generalize rhas n f 2 s1 s2 = q2 at C2
  obtain ⟨sz, hsz⟩ : ∃ sz, sz = w.heap.size := ⟨_, rfl⟩
  go_enter Try.func35, Try.ntmps35
  go_wp2_with fail
  rw [← hsz]
  generalize hy : World.alloc w _ = y
  have HY : Hid (∀ x, Keep [] y x → Keep [] w x ∧ x.cell? ⟨sz, 0, none⟩ = some (.slice (some ⟨c, 0, none⟩) n n) ∧ x.cell? ⟨sz, 1, none⟩ = some (.slice (some ⟨t, 0, none⟩) n n)) := Lib.hid (by
    subst hy hsz
    exact fun x hx => ⟨((Keep.refl _ _).alloc _).trans hx, hx.cell (cell_of (heap_alloc_same w _) 0 rfl) (by simp), hx.cell (cell_of (heap_alloc_same w _) 1 rfl) (by simp)⟩)
  clear hy hsz
  refine (C1.out _ (HY.out _ (Keep.refl _ _)).1).mono ?_
  rintro e x1 ⟨rfl, hk1⟩
  obtain ⟨hk, d0, d1⟩ := HY.out x1 hk1
  have HK := Lib.hid hk
  clear hk hk1
  cases q1
  · go_wp2_with fail
    refine (C2.out _ HK.out).mono ?_
    rintro e x2 ⟨rfl, hk2⟩
    have HF := Lib.hid (HK.out.trans hk2)
    clear hk2 d0 d1
    go_wp2_with fail
    go_ret
    exact ⟨by simp, HF.out⟩
  · go_wp2_with fail
    go_ret
    exact ⟨by simp, HK.out⟩

/-- The document's marks bear what the marks bear. -/
theorem RMarks.dwat {w : World} {c t n : Nat} {s1 s2 : List Int} (h : RMarks w c t n s1 s2) (h1 : ∀ x ∈ s1, 0 ≤ x ∧ x < (n : Int)) (h2 : ∀ x ∈ s2, 0 ≤ x ∧ x < (n : Int)) : DWat w (rval c t n) (fun f => decide (f ∈ s1) || decide (f ∈ s2)) := fun x hx f => by
  have := rwatched_at (h.keep hx (by simp) (by simp)) f
  have e1 : rhas n f 1 s1 s2 = decide (f ∈ s1) := by
    unfold rhas
    rw [decide_eq_decide, sel_one]
    exact ⟨fun q => q.2.2, fun q => ⟨(h1 f q).1, (h1 f q).2, q⟩⟩
  have e2 : rhas n f 2 s1 s2 = decide (f ∈ s2) := by
    unfold rhas
    rw [decide_eq_decide, sel_two]
    exact ⟨fun q => q.2.2, fun q => ⟨(h2 f q).1, (h2 f q).2, q⟩⟩
  rw [e1, e2] at this
  exact this
end Go.Proofs.Ytnpnedimgfbnhaa

/- Two verdicts that are alike are the same. -/
namespace Go.Proofs.Ytnpnedimgfbnhaa
open Go.RowKit Go.Mum
set_option linter.unusedVariables false
set_option maxRecDepth 100000

set_option maxHeartbeats 4000000 in
theorem lsame_at {w : World} {a b : Option Addr} {ca cb : Nat} {L : List Int} (act frame bits entry cause addr : Int) (soils : Bool) (ha : Reads w a L) (hb : Reads w b L) (hl : L.length ≤ 2) :
    Calls Try.prog 13 #[.agg #[.int .i64 act, .int .i64 frame, .int .u32 bits, .slice a L.length ca, .int .u32 entry, .bool soils, .int .i64 cause, .int .u32 addr], .agg #[.int .i64 act, .int .i64 frame, .int .u32 bits, .slice b L.length cb, .int .u32 entry, .bool soils, .int .i64 cause, .int .u32 addr]] w (BoolPost true w) := by
  have HA := Lib.hid ha
  have HB := Lib.hid hb
  clear ha hb
  obtain ⟨sz, hsz⟩ : ∃ sz, sz = w.heap.size := ⟨_, rfl⟩
  go_enter Try.func13, Try.ntmps13
  go_wp2_with fail
  rw [← hsz]
  generalize hy : World.alloc (World.alloc w _) _ = y
  have HY : Hid (Keep [] w y ∧ y.cell? ⟨sz, 3, none⟩ = some (.slice a L.length ca) ∧ y.cell? ⟨sz + 1, 3, none⟩ = some (.slice b L.length cb)) := Lib.hid (by
    subst hy hsz
    exact ⟨((Keep.refl _ _).alloc _).alloc _, ((Keep.refl [] _).alloc _).cell (cell_of (heap_alloc_same w _) 3 rfl) (by simp), cell_of (heap_alloc_at _ (by simp)) 3 rfl⟩)
  clear hy hsz
  go_loopw [5] (fun i wr => ∃ j d : Nat, j ≤ L.length ∧ i = .int .i64 j ∧ wr = y.drewN d) (fun i _ => L.length - (intOf i).toNat)
  case atStart => exact ⟨0, 0, by omega, rfl, rfl⟩
  case round =>
    obtain ⟨j, d, hj, rfl, rfl⟩ := hrel
    obtain ⟨hk, y1, y2⟩ := HY.out
    by_cases hjl : j < L.length
    · obtain ⟨g, rfl, hg⟩ : ∃ g, a = some ⟨g, 0, none⟩ ∧ y.cell? ⟨g, j, none⟩ = some (.int .i64 L[j]) := by
        rcases HA.out with h | ⟨g, h1, h2⟩
        · subst h; simp at hjl
        · exact ⟨g, h1, hk.cell (h2 j hjl) (by simp)⟩
      obtain ⟨g', rfl, hg'⟩ : ∃ g, b = some ⟨g, 0, none⟩ ∧ y.cell? ⟨g, j, none⟩ = some (.int .i64 L[j]) := by
        rcases HB.out with h | ⟨g, h1, h2⟩
        · subst h; simp at hjl
        · exact ⟨g, h1, hk.cell (h2 j hjl) (by simp)⟩
      generalize L[j] = z at hg hg'
      clear hk
      have hi1 : (j : Int) < (L.length : Int) := by omega
      go_wp2_with fail
      go_quiet (fail)
      go_wp2
      go_roundw
      case rel => exact ⟨j + 1, _, by omega, by go_num, rfl⟩
      case measure => simp [intOf]; omega
    · obtain rfl : j = L.length := by omega
      have HF := Lib.hid (hk.drewN d)
      clear hk
      go_wp2
      go_ret
      exact ⟨rfl, HF.out⟩
end Go.Proofs.Ytnpnedimgfbnhaa

/- The document's memory of any size, as tables are read in it; accesses of no kind. -/
namespace Go.Proofs.Ytnpnedimgfbnhaa
open Go.RowKit Go.Mum
set_option linter.unusedVariables false
set_option maxRecDepth 100000

theorem RefN.keep0 {w x : World} {q n : Nat} {L : List Int} (h : RefN w q n L) (hk : Keep [] w x) : RefN x q n L := ⟨h.ref.keep0 hk, h.len⟩

theorem dmem_of_ref {w : World} {q n : Nat} {L : List Int} (h : RefN w q n L) (hn : n ≤ 512) : DMem w (.slice (some ⟨q, 0, none⟩) (64 * n) (64 * n)) n (rdOf n L) := by
  refine ⟨fun x hx a ha => ?_, fun x hx a ha => ⟨byteAt (List.range n) L a, ?_⟩, fun a z hz => rdOf_lt h.ref.2.1 h.len hz, hn, _, _, _, rfl⟩
  · obtain ⟨e1, e2⟩ := wordAt_rd h.ref.2.1 h.len a
    have := bword_d (h.keep0 hx) a ha
    rw [e1, e2] at this
    exact this
  · have := bbyte_d (h.keep0 hx) a ha
    have e : decide (a < 64 * n) = layB n a 1 1 := decide_eq_decide.2 (by omega)
    rw [e]
    exact this

theorem mayB_kind {b : Nat} {k : Int} {u : Bool} (h : k < 1 ∨ 3 < k) : mayB b k u = false := by
  unfold mayB
  rw [if_neg (by omega), if_neg (by omega)]
  have : (k == 1) = false := beq_eq_false_iff_ne.2 (by omega)
  simp [this]

theorem wayL_kind {rd : Nat → Option Nat} {n cr ps va : Nat} {kind : Int} (h : kind < 1 ∨ 3 < kind) : wayL rd n cr ps va kind = none := by
  have e : (toF rd n cr 16 ps va kind).2 = false := by
    unfold toF
    split
    · rw [if_pos (by omega)]
    · split
      · rfl
      · rw [mayB_kind h]; rfl
  unfold wayL
  rw [if_pos e]

theorem dec_kind {rd : Nat → Option Nat} {n : Nat} {W : Int → Bool} {cr ps va : Nat} {kind : Int} (h : kind < 1 ∨ 3 < kind) : decF rd n W cr ps va kind = ⟨3, 0, 0, [], 0, false, 0, 0⟩ := by
  unfold decF
  rw [wayL_kind h]
  exact if_neg (by omega)

theorem dec_none {rd : Nat → Option Nat} {n : Nat} {W : Int → Bool} {cr ps va : Nat} {kind : Int} (hk : 1 ≤ kind ∧ kind ≤ 3) (h : (toF rd n cr 16 ps va kind).2 = false) : decF rd n W cr ps va kind = ⟨3, 0, 0, [], 0, false, 4 + kind, va⟩ := by
  unfold decF wayL
  rw [if_pos h]
  exact if_pos hk
end Go.Proofs.Ytnpnedimgfbnhaa
