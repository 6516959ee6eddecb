/- Contracts of the functions that the law reaches, walked, and the plain laws on them (several texts in one). -/
import Derived.Outline
import Derived.Deep.Cut
import Derived.Deep.CutBlock
import Derived.Deep.DeepCutAuto
import Derived.Test.YtnpnedimgfbnhaaM11
import Derived.Test.YtnpnedimgfbnhaaM03
import Derived.Test.YtnpnedimgfbnhaaM10
import Derived.Test.YtnpnedimgfbnhaaM01

/- The document's instructions: what is known of them without looking: a form, whether one may be, its bytes. -/
namespace Go.Proofs.Ytnpnedimgfbnhaa
open Go.RowKit Go.Mum
set_option linter.unusedVariables false
set_option maxRecDepth 100000

def formV (sz : Int) (a b : Bool) (n : Nat) (s : Bool) : Value := .agg #[.int .i64 sz, .bool a, .bool b, .int .i64 n, .bool s]

/-- Some form of at most four bytes. -/
def FormPost (w : World) (e : Ending) (w' : World) : Prop := ∃ sz a b n s, e = .returned (formV sz a b n s) ∧ n ≤ 4 ∧ 0 ≤ sz ∧ sz ≤ 6 ∧ Keep [] w w'

theorem form_of {w w' : World} {e : Ending} (sz : Int) (a b : Bool) (n : Nat) (s : Bool) (he : e = .returned (formV sz a b n s)) (h1 : n ≤ 4) (h2 : 0 ≤ sz ∧ sz ≤ 6) (hk : Keep [] w w') : FormPost w e w' := ⟨sz, a, b, n, s, he, h1, h2.1, h2.2, hk⟩

set_option maxHeartbeats 8000000 in
theorem of_at (op : Int) (h0 : 0 ≤ op) (h1 : op < 256) (w : World) :
    Calls Try.prog 54 #[.int .u8 op, .bool false] w (FormPost w) := by
  go_enter Try.func54, Try.ntmps54
  go_wp2_with fail
  all_goals first
    | (refine bodyPost_ret (v := formV 1 false false 0 false) ?_ rfl (form_of _ _ _ _ _ rfl (by omega) (by omega) ((Keep.refl _ _).alloc _)); (simp [results, Try.results54, go_sem, formV]; done))
    | (refine bodyPost_ret (v := formV 2 true true 0 false) ?_ rfl (form_of _ _ _ _ _ rfl (by omega) (by omega) ((Keep.refl _ _).alloc _)); (simp [results, Try.results54, go_sem, formV]; done))
    | (refine bodyPost_ret (v := formV 2 true false 0 false) ?_ rfl (form_of _ _ _ _ _ rfl (by omega) (by omega) ((Keep.refl _ _).alloc _)); (simp [results, Try.results54, go_sem, formV]; done))
    | (refine bodyPost_ret (v := formV 2 false false 1 false) ?_ rfl (form_of _ _ _ _ _ rfl (by omega) (by omega) ((Keep.refl _ _).alloc _)); (simp [results, Try.results54, go_sem, formV]; done))
    | (refine bodyPost_ret (v := formV 3 true false 1 true) ?_ rfl (form_of _ _ _ _ _ rfl (by omega) (by omega) ((Keep.refl _ _).alloc _)); (simp [results, Try.results54, go_sem, formV]; done))
    | (refine bodyPost_ret (v := formV 3 true true 1 true) ?_ rfl (form_of _ _ _ _ _ rfl (by omega) (by omega) ((Keep.refl _ _).alloc _)); (simp [results, Try.results54, go_sem, formV]; done))
    | (refine bodyPost_ret (v := formV 3 false false 2 true) ?_ rfl (form_of _ _ _ _ _ rfl (by omega) (by omega) ((Keep.refl _ _).alloc _)); (simp [results, Try.results54, go_sem, formV]; done))
    | (refine bodyPost_ret (v := formV 6 true false 4 true) ?_ rfl (form_of _ _ _ _ _ rfl (by omega) (by omega) ((Keep.refl _ _).alloc _)); (simp [results, Try.results54, go_sem, formV]; done))
    | (refine bodyPost_ret (v := formV 0 false false 0 false) ?_ rfl (form_of _ _ _ _ _ rfl (by omega) (by omega) ((Keep.refl _ _).alloc _)); (simp [results, Try.results54, go_sem, formV]; done))
end Go.Proofs.Ytnpnedimgfbnhaa

/- The document's instructions: whether one may be, and its bytes; nothing but their kind is said. -/
namespace Go.Proofs.Ytnpnedimgfbnhaa
open Go.RowKit Go.Mum
set_option linter.unusedVariables false
set_option maxRecDepth 100000

def SomeBool (w : World) (e : Ending) (w' : World) : Prop := ∃ q : Bool, e = .returned (.bool q) ∧ Keep [] w w'

theorem pow256 : ∀ k : Nat, k ≤ 4 → 1 ≤ 256 ^ k ∧ 256 ^ k ≤ 4294967296
  | 0, _ => by decide
  | 1, _ => by decide
  | 2, _ => by decide
  | 3, _ => by decide
  | 4, _ => by decide
  | k + 5, h => by omega

theorem pow256' : ∀ k : Nat, k ≤ 3 → 256 ^ k ≤ 16777216
  | 0, _ => by decide
  | 1, _ => by decide
  | 2, _ => by decide
  | 3, _ => by decide
  | k + 4, h => by omega

set_option maxHeartbeats 8000000 in
theorem imay_at (op a b imm : Int) (h0 : 0 ≤ op) (h1 : op < 256) (ha0 : 0 ≤ a) (ha1 : a < 256) (hb0 : 0 ≤ b) (hb1 : b < 256) (hi0 : -2147483648 ≤ imm) (hi1 : imm ≤ 2147483647) (w : World) :
    Calls Try.prog 43 #[.agg #[.int .u8 op, .int .u8 a, .int .u8 b, .int .i32 imm], .bool false] w (SomeBool w) := by
  obtain ⟨sz, hsz⟩ : ∃ sz, sz = w.heap.size := ⟨_, rfl⟩
  go_enter Try.func43, Try.ntmps43
  go_wp2_with fail
  rw [← hsz]
  generalize hy : World.alloc w _ = y0
  have H0 : Hid (y0.heap[sz]? = some (.cells #[.int .u8 op, .int .u8 a, .int .u8 b, .int .i32 imm] 116 (0, 0)) ∧ Keep [] w y0) := Lib.hid (by
    subst hy hsz
    exact ⟨heap_alloc_same _ _, (Keep.refl _ _).alloc _⟩)
  clear hy hsz
  refine (of_at op h0 h1 _).mono ?_
  rintro e y ⟨fs, fa, fb, n, fg, rfl, hn, hs0, hs1, hk⟩
  have hh := hk.heap H0.out.1 (by simp)
  have c0 := cell_of hh 0 rfl
  have c1 := cell_of hh 1 rfl
  have c2 := cell_of hh 2 rfl
  have c3 := cell_of hh 3 rfl
  have HF : Hid (∀ o, Keep [] w (y.alloc o)) := Lib.hid (fun o => (H0.out.2.trans hk).alloc o)
  have k1 := fun o => (Keep.refl [] y).alloc o
  have e1 := fun o => (k1 o).cell c1 (by simp)
  have e2 := fun o => (k1 o).cell c2 (by simp)
  have e3 := fun o => (k1 o).cell c3 (by simp)
  clear hk hh H0 k1
  unfold formV
  go_wp2_with fail
  all_goals try (go_ret; exact ⟨_, rfl, HF.out _⟩)
  all_goals
    go_loop [7, 8] (fun sv kv => ∃ (k s : Nat), kv = .int .i64 k ∧ sv = .int .i64 s ∧ k ≤ n ∧ s = 256 ^ k) (fun _ kv => n - (intOf kv).toNat)
    case atStart => exact ⟨0, 1, rfl, rfl, by omega, rfl⟩
    case round =>
      obtain ⟨k, s, rfl, rfl, hk, hs⟩ := hrel
      have hb := pow256 k (by omega)
      rw [← hs] at hb
      by_cases hlt : k < n
      · have hb2 := pow256' k (by omega)
        rw [← hs] at hb2
        have HS : Hid (s * 256 = 256 ^ (k + 1)) := Lib.hid (by rw [hs, Nat.pow_succ])
        clear hs
        go_wp2_with fail
        go_round
        case rel => exact ⟨k + 1, s * 256, by go_num, by go_num, by omega, HS.out⟩
        case measure => simp [intOf]; omega
      · obtain rfl : k = n := by omega
        clear hs
        go_wp2_with fail
        all_goals
          go_ret
          exact ⟨_, rfl, HF.out _⟩
end Go.Proofs.Ytnpnedimgfbnhaa

/- The document's instructions: their bytes; nothing but that they are bytes is said. -/
namespace Go.Proofs.Ytnpnedimgfbnhaa
open Go.RowKit Go.Mum
set_option linter.unusedVariables false
set_option maxRecDepth 100000

/-- Some bytes in new memory. -/
def SomeBytes (w : World) (e : Ending) (w' : World) : Prop := ∃ v L, e = .returned v ∧ Go.Mum.Own w' w.heap.size 5 v L ∧ L.length ≤ 6 ∧ Keep [] w w'

theorem own_one {w : World} {base : Nat} {t : TypeId} {g : Nat} {z : Int} (h : w.heap[g]? = some (.cells #[.int .u8 z] t (0, 0))) (hb : base ≤ g) (hz : 0 ≤ z ∧ z < 256) : Go.Mum.Own w base t (.slice (some ⟨g, 0, none⟩) 1 1) [z] :=
  ⟨⟨by simp [u8s], .inr ⟨g, 1, #[.int .u8 z], rfl, hb, h, Nat.le_refl _, by unfold maxLen; omega, by simp, by simp [u8s]⟩⟩, by intro x hx; simp at hx; subst hx; exact hz⟩

theorem u8w (z : Int) : 0 ≤ IntKind.u8.wrap z ∧ IntKind.u8.wrap z < 256 := by rw [IntKind.wrap_u8]; omega

theorem grown_keep {l : List Nat} {w x y : World} {v : Value} {base : Nat} {t : TypeId} {L : List Int} (hK : Keep [] w x) (ho : Go.Mum.Own x w.heap.size t v L) (hx : x.grownBy y v.ownBlock) : Keep [] w y :=
  hK.grown hx (fun k hk => .inr (ho.block k hk).1)

theorem own_ne {w : World} {base fz : Nat} {t t' : TypeId} {v : Value} {L : List Int} {cs : Array Value} {fr : Nat × Nat} (h : Go.Mum.Own w base t v L) (hf : w.heap[fz]? = some (.cells cs t' fr)) (hne : t ≠ t') : some fz ≠ v.ownBlock := by
  intro e
  rcases h.1.2 with ⟨rfl, _⟩ | ⟨g, cap, cur, rfl, _, hg, _⟩
  · simp [Value.ownBlock] at e
  · simp [Value.ownBlock] at e
    subst e
    rw [hg] at hf
    simp at hf
    exact hne hf.2.1

set_option maxHeartbeats 8000000 in
theorem ienc_at (op a b imm : Int) (h0 : 0 ≤ op) (h1 : op < 256) (ha0 : 0 ≤ a) (ha1 : a < 256) (hb0 : 0 ≤ b) (hb1 : b < 256) (hi0 : -2147483648 ≤ imm) (hi1 : imm ≤ 2147483647) (w : World) :
    Calls Try.prog 44 #[.agg #[.int .u8 op, .int .u8 a, .int .u8 b, .int .i32 imm], .bool false] w (SomeBytes w) := by
  obtain ⟨sz, hsz⟩ : ∃ sz, sz = w.heap.size := ⟨_, rfl⟩
  go_enter Try.func44, Try.ntmps44
  go_wp2_with fail
  rw [← hsz]
  generalize hy : World.alloc w _ = y0
  have H0 : Hid (y0.heap[sz]? = some (.cells #[.int .u8 op, .int .u8 a, .int .u8 b, .int .i32 imm] 116 (0, 0)) ∧ Keep [] w y0) := Lib.hid (by
    subst hy hsz
    exact ⟨heap_alloc_same _ _, (Keep.refl _ _).alloc _⟩)
  clear hy hsz
  refine (of_at op h0 h1 _).mono ?_
  rintro e y ⟨fs, fa, fb, n, fg, rfl, hn, hs0, hs1, hk⟩
  have HK := Lib.hid (H0.out.2.trans hk)
  have hh := hk.heap H0.out.1 (by simp)
  have HH := Lib.hid hh
  have c0 := cell_of hh 0 rfl
  have c1 := cell_of hh 1 rfl
  have c2 := cell_of hh 2 rfl
  have c3 := cell_of hh 3 rfl
  have k1 := fun o => (Keep.refl [] y).alloc o
  have e0 := fun o => (k1 o).cell c0 (by simp)
  have e1 := fun o => (k1 o).cell c1 (by simp)
  have e2 := fun o => (k1 o).cell c2 (by simp)
  have e3 := fun o => (k1 o).cell c3 (by simp)
  clear hk hh k1
  unfold formV
  obtain ⟨fz, hfz⟩ : ∃ fz, fz = y.heap.size := ⟨_, rfl⟩
  go_upto_region 3 with fail
  rw [← hfz]
  generalize hy1 : World.alloc (World.alloc y _) _ = y1
  have hfz2 := hfz
  have HA : Hid (y1.heap[fz]? = some (.cells #[.int .i64 fs, .bool fa, .bool fb, .int .i64 n, .bool fg] 124 (0, 0)) ∧ Go.Mum.Own y1 w.heap.size 5 (.slice (some ⟨fz + 1, 0, none⟩) 1 1) [op] ∧ Keep [] y y1) := Lib.hid (by
    subst hy1
    subst hfz
    refine ⟨heap_alloc_other _ (heap_alloc_same _ _), own_one (heap_alloc_at _ (by simp)) (by have := HK.out.size; omega) ⟨h0, h1⟩, ((Keep.refl _ _).alloc _).alloc _⟩)
  have hszl := lt_of_heap HH.out
  have HQ : Hid (∀ x, Keep [fz + 1] y1 x → (x.cell? ⟨sz, 1, none⟩ = some (.int .u8 a) ∧ x.cell? ⟨sz, 2, none⟩ = some (.int .u8 b) ∧ x.cell? ⟨sz, 3, none⟩ = some (.int .i32 imm)) ∧ x.cell? ⟨fz, 1, none⟩ = some (.bool fa) ∧ x.cell? ⟨fz, 3, none⟩ = some (.int .i64 n)) := Lib.hid (fun x hx => by
    have q := hx.heap HA.out.1 (by simp)
    have k := fun {a v} (h : y.cell? a = some v) (hn : a.block ∉ [fz + 1]) => hx.cell (HA.out.2.2.cell h (by simp)) hn
    have hn : sz ≠ fz + 1 := by omega
    exact ⟨⟨k c1 (by simpa using hn), k c2 (by simpa using hn), k c3 (by simpa using hn)⟩, cell_of q 1 rfl, cell_of q 3 rfl⟩)
  have HFZ := Lib.hid hfz2
  clear hy1 hfz hfz2 hszl c0 c1 c2 c3 e0 e1 e2 e3
  obtain ⟨⟨q1, q2, q3⟩, q4, q5⟩ := HQ.out y1 (Keep.refl _ _)
  go_upto_if 17 with fail
  go_cut [6] (fun s6 wx => ∃ (L : List Int), Hid (Go.Mum.Own wx w.heap.size 5 s6 L ∧ L.length ≤ 2 ∧ Keep [fz + 1] y1 wx))
  case first =>
    cases fa
    · go_wp2_with fail
      go_meet
      case rel => exact ⟨_, Lib.hid ⟨HA.out.2.1, by simp, Keep.refl _ _⟩⟩
    · go_wp2_with (at_builtin; go_loud (refine wpList_append_row rfl _ _ 38 rfl w.heap.size 5 Try.underlying38 info_u8 (.slice (some ⟨fz + 1, 0, none⟩) 1 1) [op] _ rfl (HA.out.2.1.keep0 ((Keep.refl [] _).alloc _)) (some ⟨y1.heap.size, 0, none⟩) _ 1 rfl rfl (row_one _ _ (by first | exact u8w _ | omega)) (by simp) (by have := HA.out.2.2.size; have := HK.out.size; simp; omega) ?_); intro v2 w2 ho hg; have HG := Lib.hid (And.intro ho hg); clear ho hg)
      have HG2 : Hid (Keep [fz + 1] y1 w2) := Lib.hid (((Keep.refl [fz + 1] y1).alloc _).grown HG.out.2 (fun k hk => by simp [Value.ownBlock] at hk; subst hk; exact .inl (by simp)))
      go_wp2_with fail
      go_meet
      case rel => exact ⟨_, Lib.hid ⟨HG.out.1, by simp, HG2.out⟩⟩
  case rest =>
    obtain ⟨L, HL⟩ := hcut
    obtain ⟨⟨r1, r2, r3⟩, r4, r5⟩ := HQ.out wc HL.out.2.2
    have HW : Hid (Keep [] w wc ∧ wc.heap[fz]? = some (.cells #[.int .i64 fs, .bool fa, .bool fb, .int .i64 n, .bool fg] 124 (0, 0)) ∧ fz < wc.heap.size ∧ w.heap.size ≤ fz) := Lib.hid (by
      have h1 := HK.out.size
      have h2 := HFZ.out
      have h3 := HL.out.2.2.heap HA.out.1 (by simp)
      exact ⟨(HK.out.trans HA.out.2.2).then HL.out.2.2 (by simp; omega), h3, lt_of_heap h3, by omega⟩)
    clear q1 q2 q3 q4 q5
    by_cases hneg : imm < 0
    all_goals
      go_wp2_with fail
      obtain ⟨m0, hm0, hm1, hm2⟩ : ∃ m0 : Int, m0 = (if imm < 0 then imm + 4294967296 else imm) ∧ 0 ≤ m0 ∧ m0 < 4294967296 := ⟨_, rfl, by split <;> omega, by split <;> omega⟩
      first | rw [if_pos (by omega)] at hm0 | rw [if_neg (by omega)] at hm0
      try rw [← hm0]
      clear hm0
      go_loopw [6, 7, 8] (fun sv mv kv wr => ∃ (k : Nat) (m : Int) (L : List Int), kv = .int .i64 k ∧ mv = .int .i64 m ∧ k ≤ n ∧ 0 ≤ m ∧ m < 4294967296 ∧ Hid (Go.Mum.Own wr w.heap.size 5 sv L ∧ L.length ≤ 2 + k ∧ Keep [] w wr ∧ wr.heap[fz]? = some (.cells #[.int .i64 fs, .bool fa, .bool fb, .int .i64 n, .bool fg] 124 (0, 0)))) (fun _ _ kv _ => n - (intOf kv).toNat)
      case atStart => exact ⟨0, _, L, rfl, rfl, by omega, by omega, by omega, Lib.hid ⟨HL.out.1, by have := HL.out.2.1; omega, HW.out.1, HW.out.2.1⟩⟩
      case round =>
        obtain ⟨k, m, M, rfl, rfl, hk, hm3, hm4, HR⟩ := hrel
        have g3 := cell_of HR.out.2.2.2 3 rfl
        by_cases hlt : k < n
        · have hml := HR.out.2.1
          go_wp2_with (at_builtin; go_loud (refine wpList_append_row rfl _ _ 38 rfl w.heap.size 5 Try.underlying38 info_u8 _ M _ rfl (HR.out.1.keep0 ((Keep.refl [] _).alloc _)) (some ⟨wr.heap.size, 0, none⟩) _ 1 rfl rfl (row_one _ _ (by first | exact u8w _ | omega)) (by simp; omega) (by have := HR.out.2.2.1.size; simp; omega) ?_); intro v2 v2w ho hg; have HG := Lib.hid (And.intro ho hg); clear ho hg)
          have HG2 : Hid (Keep [] w v2w ∧ v2w.heap[fz]? = some (.cells #[.int .i64 fs, .bool fa, .bool fb, .int .i64 n, .bool fg] 124 (0, 0))) := Lib.hid (by
            refine ⟨(HR.out.2.2.1.alloc _).grown HG.out.2 (fun q hq => .inr (HR.out.1.block q hq).1), ?_⟩
            have h3 := HR.out.2.2.2
            rw [HG.out.2.block fz (by have := lt_of_heap h3; simp; omega) (own_ne HR.out.1 h3 (by decide))]
            exact heap_alloc_other _ h3)
          go_wp2_with fail
          go_roundw
          case rel => exact ⟨k + 1, _, _, by go_num, rfl, by omega, by omega, by omega, Lib.hid ⟨HG.out.1, by have := HR.out.2.1; rw [List.length_append]; simp only [List.length_cons, List.length_nil]; omega, HG2.out.1, HG2.out.2⟩⟩
          case measure => simp [intOf]; omega
        · obtain rfl : k = n := by omega
          go_wp2_with fail
          go_ret
          exact ⟨_, M, rfl, HR.out.1, by have := HR.out.2.1; omega, HR.out.2.2.1⟩
end Go.Proofs.Ytnpnedimgfbnhaa

/- Arguments as they come in: bytes, pairs of numbers. -/
namespace Go.Proofs.Ytnpnedimgfbnhaa
open Go.RowKit Go.Mum
set_option maxRecDepth 100000

/-- A slice of bytes that came in, as a list. -/
theorem row_of_fits {w : World} {B n : Nat} {a : Option Addr} {len cap : Nat} (h : Fits Try.prog w B n 38 [.slice a len cap]) : ∃ L : List Int, len = L.length ∧ Row w a cap L ∧ (len ≤ B ∨ len = 0) := by
  rcases h.slice Try.underlying38 with ⟨rfl, rfl, rfl⟩ | ⟨b, m, rfl, h1, h2, h3, h4⟩
  · exact ⟨[], rfl, Row.nil w, .inr rfl⟩
  · rcases h.ints Try.underlying38 Try.underlying5 (by kernel_rfl) with rfl | ⟨b', off, e, h0, h1', h2', h3', h4', z, hz⟩
    · exact ⟨[], rfl, ⟨(by intro x hx; cases hx), ⟨h1, h2⟩, .inr (.inl ⟨rfl, _, rfl⟩)⟩, .inr rfl⟩
    · cases e
      refine ⟨(List.range len).map z, by simp, ⟨?_, ⟨by simp; exact h1, h2⟩, .inr (.inr ⟨b', off, rfl, ?_⟩)⟩, .inl h3⟩
      · intro x hx
        obtain ⟨i, hi, rfl⟩ := List.mem_map.1 hx
        have := wf_u8 (hz i (List.mem_range.1 hi)).2
        omega
      · intro i hi
        simp at hi
        rw [(hz i hi).1]
        simp [List.getD, hi]

theorem row_old {w : World} {a : Option Addr} {c : Nat} {L : List Int} (h : Row w a c L) {g : Nat} (hg : w.heap.size ≤ g) : L = [] ∨ ∀ b, a = some b → b.block ≠ g := by
  rcases h.at' with ⟨_, h, _⟩ | ⟨h, _⟩ | ⟨b, off, rfl, hc⟩
  · exact .inl h
  · exact .inl h
  · by_cases h0 : L = []
    · exact .inl h0
    · right
      have := World.block_lt_of_cell? w _ (hc 0 (List.length_pos_iff.2 h0))
      simp only [Option.some.injEq, forall_eq']
      simp at this
      omega

/-- The pair of addresses. -/
theorem two_of_fits {w : World} {B n : Nat} {c : Array Value} (h : Fits Try.prog w B n 47 c.toList) : ∃ z0 z1 : Nat, c = #[.int .u32 z0, .int .u32 z1] ∧ z0 < 4294967296 ∧ z1 < 4294967296 := by
  obtain ⟨m, hl, hf⟩ := h.array Try.underlying47
  have hlen : c.toList.length = 2 := hl.trans (by kernel_rfl)
  obtain ⟨l⟩ := c
  match l, hlen with
  | [d0, d1], _ =>
    have q1 : Try.prog.cellsOf 22 = 1 := by kernel_rfl
    have f0 := hf 0 (by omega)
    have f1 := hf 1 (by omega)
    simp only [q1] at f0 f1
    obtain ⟨z0, e0, g0⟩ := f0.int Try.underlying22
    obtain ⟨z1, e1, g1⟩ := f1.int Try.underlying22
    simp at e0 e1
    subst e0 e1
    have h0 := wf_u32 g0
    have h1 := wf_u32 g1
    exact ⟨z0.toNat, z1.toNat, by rw [Int.toNat_of_nonneg h0.1, Int.toNat_of_nonneg h1.1], by omega, by omega⟩

end Go.Proofs.Ytnpnedimgfbnhaa

/- A guest's memory as it is laid: some bytes, of so many frames. -/
namespace Go.Proofs.Ytnpnedimgfbnhaa
open Go.RowKit Go.Mum
set_option linter.unusedVariables false
set_option maxRecDepth 100000

/-- Instructions that came in. -/
def InsIn (w : World) (s : Option Addr) (len : Nat) : Prop :=
  len = 0 ∨ ∃ lb off, s = some ⟨lb, off, none⟩ ∧ len ≤ 9223372036854775807 ∧ ∀ i, i < len → ∃ op a b imm : Int, (0 ≤ op ∧ op < 256) ∧ (0 ≤ a ∧ a < 256) ∧ (0 ≤ b ∧ b < 256) ∧ (-2147483648 ≤ imm ∧ imm ≤ 2147483647) ∧
    w.cell? ⟨lb, off + i * 4, none⟩ = some (.int .u8 op) ∧ w.cell? ⟨lb, off + i * 4 + 1, none⟩ = some (.int .u8 a) ∧ w.cell? ⟨lb, off + i * 4 + 2, none⟩ = some (.int .u8 b) ∧ w.cell? ⟨lb, off + i * 4 + 3, none⟩ = some (.int .i32 imm)

theorem wf_i32 {z : Int} (h : (Lit.int .i32 z).wf = true) : -2147483648 ≤ z ∧ z ≤ 2147483647 := by simp only [Lit.wf, IntKind.min, IntKind.max, IntKind.signed, IntKind.bits, Bool.and_eq_true, decide_eq_true_eq] at h; simp at h; exact h

theorem ins_of_fits {w : World} {B n : Nat} {s : Option Addr} {len cap : Nat} (h : Fits Try.prog w B n 39 [.slice s len cap]) : InsIn w s len := by
  rcases h.rows Try.underlying39 4 (by kernel_rfl) (by omega) with h | ⟨lb, off, mm, rfl, _, h1, h2, _, hlt, h3⟩
  · exact .inl h
  · refine .inr ⟨lb, off, rfl, by unfold maxLen at h2; omega, fun i hi => ?_⟩
    obtain ⟨ds, hd, hc, hf⟩ := h3 i hi
    obtain ⟨m2, hl, hfs⟩ := hf.struct Try.underlying116
    match ds, hd with
    | [d0, d1, d2, d3], _ =>
      have q1 : Try.prog.cellsOf 5 = 1 := by kernel_rfl
      have q2 : Try.prog.cellsOf 21 = 1 := by kernel_rfl
      obtain ⟨z0, e0, g0⟩ := (hfs _ (.head _)).int Try.underlying5
      obtain ⟨z1, e1, g1⟩ := (hfs _ (.tail _ (.head _))).int Try.underlying5
      obtain ⟨z2, e2, g2⟩ := (hfs _ (.tail _ (.tail _ (.head _)))).int Try.underlying5
      obtain ⟨z3, e3, g3⟩ := (hfs _ (.tail _ (.tail _ (.tail _ (.head _))))).int Try.underlying21
      simp [q1, q2] at e0 e1 e2 e3
      subst e0 e1 e2 e3
      have h0 := wf_u8 g0
      have h1' := wf_u8 g1
      have h2' := wf_u8 g2
      have h3' := wf_i32 g3
      exact ⟨z0, z1, z2, z3, by omega, by omega, by omega, h3', by simpa using hc 0 (by omega), hc 1 (by omega), hc 2 (by omega), hc 3 (by omega)⟩

/-- What Laid leaves. -/
def LaidPost (w : World) (e : Ending) (w' : World) : Prop :=
  ∃ (g n : Nat) (L : List Int), e = .returned (.tuple #[.slice (some ⟨g, 0, none⟩) (64 * n) (64 * n), .int .i64 n]) ∧ 1 ≤ n ∧ n ≤ 24 ∧ w'.heap[g]? = some (.cells (u8s L).toArray 5 (0, 0)) ∧ L.length = 64 * n ∧ IsBytes L ∧ w.heap.size ≤ g ∧ Keep [] w w'

/-- How the bytes stand in the making. -/
def LB (w : World) (g n : Nat) (x : World) : Prop := ∃ L : List Int, x.heap[g]? = some (.cells (u8s L).toArray 5 (0, 0)) ∧ L.length = 64 * n ∧ IsBytes L ∧ Keep [] w x

theorem LB.set {w x : World} {g n j : Nat} {z : Int} (h : LB w g n x) (hg : w.heap.size ≤ g) (hz : 0 ≤ z ∧ z < 256) : LB w g n (x.setCell ⟨g, j, none⟩ (.int .u8 z)) := by
  obtain ⟨L, h1, h2, h3, h4⟩ := h
  refine ⟨L.set j z, u8_set h1 j z, by rw [List.length_set]; exact h2, ?_, h4.setCell (.inr hg) _⟩
  intro y hy
  rcases List.mem_or_eq_of_mem_set hy with hy | rfl
  · exact h3 y hy
  · exact hz

theorem LB.cell {w x : World} {g n j : Nat} (h : LB w g n x) (hj : j < 64 * n) : ∃ z : Int, x.cell? ⟨g, j, none⟩ = some (.int .u8 z) ∧ x.frozen? ⟨g, j, none⟩ = false := by
  obtain ⟨L, h1, h2, h3, h4⟩ := h
  exact ⟨_, u8_cell h1 (by omega), frozen_of h1 j⟩

theorem LB.keep {w x y : World} {g n : Nat} (h : LB w g n x) (hk : Keep [] x y) : LB w g n y := by
  obtain ⟨L, h1, h2, h3, h4⟩ := h
  exact ⟨L, hk.heap h1 (by simp), h2, h3, h4.trans hk⟩
end Go.Proofs.Ytnpnedimgfbnhaa
