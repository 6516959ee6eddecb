/- Contracts of the functions that the law reaches, walked, and the plain laws on them (several texts in one). -/
import Derived.Outline
import Derived.Deep.RegionLaw
import Derived.Deep.AppendLies
import Derived.Deep.DrawnRows
import Derived.Test.YtpinoejckagjbaaM02

/- What is laid in a memory: lay, SetByte, SetWord, Fill. -/
namespace Go.Proofs.Ytpinoejckagjbaa
open Go.RowKit Go.Mum

/-- May so many bytes be laid there? -/
def layB (n a m al : Nat) : Bool := decide (a % al = 0 ∧ a + m ≤ 64 * n)
theorem layB_yes {n a m al : Nat} (h : a % al = 0 ∧ a + m ≤ 64 * n) : layB n a m al = true := decide_eq_true h
theorem layB_no {n a m al : Nat} (h : ¬ (a % al = 0 ∧ a + m ≤ 64 * n)) : layB n a m al = false := decide_eq_false h

/-- What a call that lays bytes leaves. -/
def LayPost (r fb g : Nat) (ks : List Nat) (L : List Int) (a : Nat) (M : List Int) (al : Nat) (w : World) (e : Ending) (w' : World) : Prop :=
  e = .returned (.bool (layB ks.length a M.length al)) ∧ RamAt w' r fb g ks (if layB ks.length a M.length al = true then putAt ks L a M else L) ∧ Keep [g] w w'

/-- The two method values that are handed on. -/
def mayV (v : Value) : Value := .func (.func 78) #[v] #[]
def atV (v : Value) : Value := .func (.func 79) #[v] #[]

set_option maxHeartbeats 1000000 in
theorem rlay_no {w : World} {v : Value} {n : Nat} (h : Sz w v n) (a : Nat) (ha : a < 4294967296) (al : Nat) (hal : al = 1 ∨ al = 4) {src : Option Addr} {c : Nat} (m : Nat) (hm : m ≤ 9223372036854775807)
    (hno : ¬ (a % al = 0 ∧ a + m ≤ 64 * n)) :
    Calls Try.prog 77 #[.int .u32 a, .slice src m c, .int .i64 al, .func (.func 78) #[v] #[], .func (.func 79) #[v] #[]] w fun e w' => e = .returned (.bool false) ∧ w = w' := by
  have C := rwithin_any h a m al ha hm hal
  rw [decide_eq_false hno] at C
  have C := Lib.hid C
  clear h hno
  go_enter Try.func77, Try.ntmps77
  go_wp2_with fail
  refine C.out.mono ?_
  rintro e w' ⟨rfl, rfl⟩
  go_wp2_with fail
  go_ret
  exact ⟨rfl, rfl⟩

theorem info_u8s : (Try.prog.info? 5).map (·.size) = some 1 := by kernel_rfl

set_option maxRecDepth 100000 in
set_option maxHeartbeats 4000000 in
theorem rlay_yes {w : World} {r fb g : Nat} {ks : List Nat} {L : List Int} (h : RamAt w r fb g ks L) (a : Nat) (al : Nat) (hal : al = 1 ∨ al = 4) {src : Option Addr} {c : Nat} {M : List Int}
    (hM : Row w src c M) (hsrc : ∀ b, src = some b → b.block ≠ g) (hyes : a % al = 0 ∧ a + M.length ≤ 64 * ks.length) :
    Calls Try.prog 77 #[.int .u32 a, .slice src M.length c, .int .i64 al, .func (.func 78) #[.pointer (some ⟨r, 0, none⟩)] #[], .func (.func 79) #[.pointer (some ⟨r, 0, none⟩)] #[]] w
      (LayPost r fb g ks L a M al w) := by
  have hs := h.size
  have C := rwithin_any h.sz a M.length al (by omega) (by omega) hal
  rw [decide_eq_true hyes] at C
  have C := Lib.hid C
  have HP : Hid (∀ w', RamAt w' r fb g ks (putAt ks L a M) → Keep [g] w w' → LayPost r fb g ks L a M al w (.returned (.bool true)) w') := Lib.hid fun w' h1 h2 => ⟨by rw [layB_yes hyes], by rw [if_pos (layB_yes hyes)]; exact h1, h2⟩
  have hyl := hyes.2
  have H := Lib.hid (And.intro h (And.intro hM hsrc))
  clear h hM hyes hsrc
  go_enter Try.func77, Try.ntmps77
  go_wp2_with fail
  refine C.out.mono ?_
  rintro e w' ⟨rfl, rfl⟩
  go_wp2_with fail
  have hsr : (src = none ∨ ∃ b off, src = some (⟨b, off, none⟩ : Addr)) ∨ M = [] := by
    rcases H.out.2.1.at' with ⟨h1, _⟩ | ⟨h1, _⟩ | ⟨b, off, h1, _⟩
    · exact .inl (.inl h1)
    · exact .inr h1
    · exact .inl (.inr ⟨b, off, h1⟩)
  go_loopw [0, 1, 11] (fun av bv _ wr => ∃ (P N : List Int) (s' : Option Addr) (c' k m : Nat), av = .int .u32 k ∧ bv = .slice s' m c' ∧ k = a + P.length ∧ m = N.length ∧ P.length + N.length = M.length ∧ P ++ N = M ∧ Row wr s' c' N ∧ (∀ b, s' = some b → b.block ≠ g) ∧ RamAt wr r fb g ks (putAt ks L a P) ∧ Keep [g] w wr) (fun _ bv _ _ => (match bv with | .slice _ n _ => n | _ => 0))
  case atStart => exact ⟨[], M, src, c, a, M.length, rfl, rfl, by simp, rfl, by simp, rfl, H.out.2.1, H.out.2.2, H.out.1, Keep.refl _ _⟩
  case round =>
    obtain ⟨P, N, s', c', k, m, rfl, rfl, hk, hm, hpn, hPN, hR, hne, hA, hK⟩ := hrel
    have Hk := Lib.hid (And.intro hk (And.intro hm hPN))
    have hkl : k + N.length ≤ 64 * ks.length := by omega
    by_cases hlt : 0 < m
    · obtain ⟨b, off, rfl⟩ := hR.some_of (by omega)
      have D := Lib.hid (rat_at hA k (by omega))
      have hpl := hA.pl_lt (a := k) (by omega)
      have hpe : pl ks k = 64 * ks.getD (k / 64) 0 + k % 64 := rfl
      have HR := Lib.hid (And.intro hR (And.intro hA (And.intro hK (hne _ rfl))))
      have HF := Lib.hid (putAt_frame ks (N.take (64 - k % 64)) (putAt ks L a P) k (by rw [List.length_take]; omega) (by rw [List.length_take]; omega))
      have hca : (m : Int) ≤ (c' : Int) := by have := hR.cap.1; omega
      have hfit : pl ks k + (64 - k % 64) ≤ (putAt ks L a P).length := by omega
      obtain ⟨q, hq⟩ : ∃ q, q = (N.take (64 - k % 64)).length := ⟨_, rfl⟩
      have hq' : q = min (64 - k % 64) N.length := by rw [hq, List.length_take]
      have hqm : (q : Int) ≤ (m : Int) := by omega
      have hq0 : 0 < q := by omega
      have hk9 : (k : Int) + (q : Int) ≤ 32768 := by omega
      have hNq : N.take q = N.take (64 - k % 64) := by
        rw [hq', ← List.take_eq_take_min]
      have HQ := Lib.hid (And.intro hq hNq)
      have hw1 : IntKind.u32.wrap (q : Int) = (q : Int) := by rw [IntKind.wrap_u32]; omega
      have HE : Hid (∀ x, x.heap[g]? = some (.cells (u8s (splice (putAt ks L a P) (pl ks k) (N.take (64 - k % 64)))).toArray 5 (0, 0)) → Keep [g] wr x → RamAt x r fb g ks (putAt ks L a (P ++ N.take q)) ∧ Row x (some ⟨b, off, none⟩) c' N ∧ Keep [g] w x) := Lib.hid fun x h1 h2 => by
        have hA := HR.out.2.1
        have hs' : splice (putAt ks L a P) (pl ks k) (N.take (64 - k % 64)) = putAt ks L a (P ++ N.take q) := by rw [putAt_append, hNq, ← HF.out, Hk.out.1]
        rw [hs'] at h1
        exact ⟨hA.put h2 h1 (by rw [putAt_length, putAt_length]) (putAt_bytes _ _ _ _ H.out.1.bytes (fun y hy => by
          rcases List.mem_append.1 hy with hy | hy
          · exact H.out.2.1.bytes y (by rw [← Hk.out.2.2]; simp [hy])
          · exact HR.out.1.bytes y (List.mem_of_mem_take hy))), HR.out.1.keep h2 (by simp only [Option.some.injEq, forall_eq']; simpa using HR.out.2.2.2), HR.out.2.2.1.trans h2⟩
      clear hR hA hne hk hm hpn hPN hK hpl hpe hq hq' hNq
      by_cases hcq : c' = q
      · subst hcq
        have hmq : m = c' := by omega
        subst hmq
        go_wp2_with fail
        refine D.out.mono ?_
        rintro e w' ⟨rfl, rfl⟩
        go_wp2_with (with_reducible refine wpList_copy_row rfl (.tmp 24) (.tmp 25) 48 48 rfl 5 Try.underlying48 info_u8s g (pl ks k) (64 - k % 64) (64 - k % 64) m m (some ⟨b, off, none⟩) rfl rfl N Hk.out.2.1 HR.out.1 (putAt ks L a P) 5 HR.out.2.1.data hfit m HQ.out.1 ?_; intro w2 hw2 hk2; have HZ := Lib.hid (HE.out w2 hw2 hk2); clear hw2 hk2)
        go_roundw
        case rel =>
          have hq := HQ.out.1
          rw [List.length_take] at hq
          have hm := Hk.out.2.1
          exact ⟨P ++ N.take m, N.drop m, some ⟨b, off, none⟩, m - m, k + m, m - m, by go_num, by simp, by rw [Hk.out.1, List.length_append, List.length_take]; omega, by rw [List.length_drop, Hk.out.2.1], by rw [List.length_append, List.length_take, List.length_drop, ← Hk.out.2.2, List.length_append]; omega, by rw [List.append_assoc, List.take_append_drop]; exact Hk.out.2.2, (by rw [List.drop_eq_nil_of_le (by omega)]; exact ⟨(by intro x hx; cases hx), ⟨by simp, by unfold maxLen; omega⟩, .inr (.inl ⟨rfl, _, rfl⟩)⟩), by simp only [Option.some.injEq, forall_eq']; exact HR.out.2.2.2, HZ.out.1, HZ.out.2.2⟩
        case measure => simp; omega
      · go_wp2_with fail
        refine D.out.mono ?_
        rintro e w' ⟨rfl, rfl⟩
        go_wp2_with (with_reducible refine wpList_copy_row rfl (.tmp 24) (.tmp 25) 48 48 rfl 5 Try.underlying48 info_u8s g (pl ks k) (64 - k % 64) (64 - k % 64) m c' (some ⟨b, off, none⟩) rfl rfl N Hk.out.2.1 HR.out.1 (putAt ks L a P) 5 HR.out.2.1.data hfit q HQ.out.1 ?_; intro w2 hw2 hk2; have HZ := Lib.hid (HE.out w2 hw2 hk2); clear hw2 hk2)
        go_roundw
        case rel =>
          have hq := HQ.out.1
          rw [List.length_take] at hq
          have hm := Hk.out.2.1
          exact ⟨P ++ N.take q, N.drop q, some ⟨b, off + q, none⟩, c' - q, k + q, m - q, by go_num, rfl, by rw [Hk.out.1, List.length_append, List.length_take]; omega, by rw [List.length_drop, Hk.out.2.1], by rw [List.length_append, List.length_take, List.length_drop, ← Hk.out.2.2, List.length_append]; omega, by rw [List.append_assoc, List.take_append_drop]; exact Hk.out.2.2, HZ.out.2.1.drop q (by omega), by simp only [Option.some.injEq, forall_eq']; exact HR.out.2.2.2, HZ.out.1, HZ.out.2.2⟩
        case measure => simp; omega
    · obtain rfl : m = 0 := by omega
      have hN : N = [] := List.eq_nil_of_length_eq_zero (by omega)
      have HF : Hid (LayPost r fb g ks L a M al w (.returned (.bool true)) wr) := Lib.hid (by
        subst hN
        rw [List.append_nil] at hPN
        subst hPN
        exact HP.out _ hA hK)
      clear hR hA hne hk hm hpn hPN hK hN
      go_wp2
      go_ret
      exact HF.out

theorem rlay_any {w : World} {r fb g : Nat} {ks : List Nat} {L : List Int} (h : RamAt w r fb g ks L) (a : Nat) (ha : a < 4294967296) (al : Nat) (hal : al = 1 ∨ al = 4) {src : Option Addr} {c : Nat} {M : List Int}
    (hM : Row w src c M) (hsrc : ∀ b, src = some b → b.block ≠ g) (hl : M.length ≤ 9223372036854775807) :
    Calls Try.prog 77 #[.int .u32 a, .slice src M.length c, .int .i64 al, .func (.func 78) #[.pointer (some ⟨r, 0, none⟩)] #[], .func (.func 79) #[.pointer (some ⟨r, 0, none⟩)] #[]] w
      (LayPost r fb g ks L a M al w) := by
  by_cases hyes : a % al = 0 ∧ a + M.length ≤ 64 * ks.length
  · exact rlay_yes h a al hal hM hsrc hyes
  · refine (rlay_no h.sz a ha al hal M.length hl hyes).mono ?_
    rintro e w' ⟨rfl, rfl⟩
    exact ⟨by rw [layB_no hyes], by rw [if_neg (by rw [layB_no hyes]; simp)]; exact h, Keep.refl _ _⟩

theorem lay_then {r fb g : Nat} {ks : List Nat} {L : List Int} {a : Nat} {M : List Int} {al : Nat} {w x w' : World} {e : Ending} (hk : Keep [g] w x) (h : LayPost r fb g ks L a M al x e w') : LayPost r fb g ks L a M al w e w' :=
  ⟨h.1, h.2.1, hk.trans h.2.2⟩

theorem row_one (w : World) (z : Int) (h0 : 0 ≤ z ∧ z < 256) : Row (w.alloc (.cells #[.int .u8 z] 5)) (some ⟨w.heap.size, 0, none⟩) 1 [z] :=
  ⟨by intro x hx; simp at hx; omega, ⟨Nat.le_refl _, by unfold maxLen; omega⟩, .inr <| .inr ⟨_, _, rfl, fun i hi => by
    obtain rfl : i = 0 := by simpa using hi
    exact cell_of (heap_alloc_same w _) 0 rfl⟩⟩

theorem row_four (w : World) (z0 z1 z2 z3 : Int) (h : IsBytes [z0, z1, z2, z3]) : Row (w.alloc (.cells #[.int .u8 z0, .int .u8 z1, .int .u8 z2, .int .u8 z3] 5)) (some ⟨w.heap.size, 0, none⟩) 4 [z0, z1, z2, z3] :=
  ⟨h, ⟨Nat.le_refl _, by unfold maxLen; simp⟩, .inr <| .inr ⟨_, _, rfl, fun i hi => by
    simp only [List.length_cons, List.length_nil] at hi
    match i, hi with
    | 0, _ => exact cell_of (heap_alloc_same w _) 0 rfl
    | 1, _ => exact cell_of (heap_alloc_same w _) 1 rfl
    | 2, _ => exact cell_of (heap_alloc_same w _) 2 rfl
    | 3, _ => exact cell_of (heap_alloc_same w _) 3 rfl⟩⟩

/-- A word's four bytes. -/
def le4 (s : Nat) : List Int := [(s : Int) % 256, (s : Int) / 256 % 256, (s : Int) / 65536 % 256, (s : Int) / 16777216]

theorem le4_bytes {s : Nat} (hs : s < 4294967296) : IsBytes (le4 s) := by
  intro x hx
  simp only [le4, List.mem_cons, List.not_mem_nil, or_false] at hx
  rcases hx with rfl | rfl | rfl | rfl <;> omega

set_option maxHeartbeats 1000000 in
theorem rfill_any {w : World} {r fb g : Nat} {ks : List Nat} {L : List Int} (h : RamAt w r fb g ks L) (a : Nat) (ha : a < 4294967296) {src : Option Addr} {c : Nat} {M : List Int}
    (hM : Row w src c M) (hsrc : ∀ b, src = some b → b.block ≠ g) (hl : M.length ≤ 9223372036854775807) :
    Calls Try.prog 44 #[.pointer (some ⟨r, 0, none⟩), .int .u32 a, .slice src M.length c] w (LayPost r fb g ks L a M 1 w) := by
  have C := Lib.hid (rlay_any h a ha 1 (.inl rfl) hM hsrc hl)
  have hmf : ∀ (fn : Fn) (first cap : Array Value) (w : World), (Instr.makeFunc fn first cap).run Try.prog w = .ok (.func fn first cap) w := fun _ _ _ _ => rfl
  clear h hM hsrc hl
  go_enter Try.func44, Try.ntmps44
  go_wp2_with fail
  refine C.out.mono ?_
  rintro e w' HL
  obtain ⟨rfl, hr⟩ := id HL
  have HL := Lib.hid HL
  clear hr
  go_wp2_with fail
  go_ret
  exact HL.out

set_option maxHeartbeats 1000000 in
theorem rsetword_any {w : World} {r fb g : Nat} {ks : List Nat} {L : List Int} (h : RamAt w r fb g ks L) (a : Nat) (ha : a < 4294967296) (z : Nat) (hz : z < 4294967296) :
    Calls Try.prog 82 #[.pointer (some ⟨r, 0, none⟩), .int .u32 a, .int .u32 z] w (LayPost r fb g ks L a (le4 z) 4 w) := by
  have hK : ∀ o, Keep [g] w (w.alloc o) := fun o => (Keep.refl _ _).alloc o
  have C := Lib.hid ((rlay_any (h.keep0 ((Keep.refl [] w).alloc _)) a ha 4 (.inr rfl) (row_four w _ _ _ _ (le4_bytes hz)) (by have := h.lt.2.2; simp only [Option.some.injEq, forall_eq']; omega) (by simp)).mono fun e w' => lay_then (hK _))
  have hmf : ∀ (fn : Fn) (first cap : Array Value) (w : World), (Instr.makeFunc fn first cap).run Try.prog w = .ok (.func fn first cap) w := fun _ _ _ _ => rfl
  clear h hK
  go_enter Try.func82, Try.ntmps82
  go_wp2_with fail
  refine C.out.mono ?_
  rintro e w' HL
  obtain ⟨rfl, hr⟩ := id HL
  have HL := Lib.hid HL
  clear hr
  go_wp2_with fail
  go_ret
  exact HL.out

/-- Of a receiver that has no such place. -/
theorem none_then {w x w' : World} {e : Ending} (hk : Keep [] w x) (h : e = .returned (.bool false) ∧ x = w') : e = .returned (.bool false) ∧ Keep [] w w' := ⟨h.1, h.2 ▸ hk⟩

end Go.Proofs.Ytpinoejckagjbaa

/- Memories made: New, Copy, Window. -/
namespace Go.Proofs.Ytpinoejckagjbaa
open Go.RowKit Go.Mum

/-- The rows of the first k frames. -/
def rowsV (g : Nat) (ks : List Nat) : List Value := ks.map fun i => .slice (some ⟨g, 64 * i, none⟩) 64 64

theorem owns_keep {l : List Nat} {w x : World} {base : Nat} {t : TypeId} {s : Nat} {v : Value} {n : Nat} {xs : List Value} (h : w.ownsRow base t s v n xs) (hk : Keep l w x) (hn : ∀ k, v.ownBlock = some k → k ∉ l) : x.ownsRow base t s v n xs := by
  refine ⟨h.1, ?_⟩
  rcases h.2 with hh | ⟨g, cap, cur, rfl, hb, hg, r⟩
  · exact .inl hh
  · exact .inr ⟨g, cap, cur, rfl, hb, hk.heap hg (hn g rfl), r⟩

theorem owns_keep0 {w x : World} {base : Nat} {t : TypeId} {s : Nat} {v : Value} {n : Nat} {xs : List Value} (h : w.ownsRow base t s v n xs) (hk : Keep [] w x) : x.ownsRow base t s v n xs := owns_keep h hk (fun _ _ => by simp)

/-- What New leaves. -/
def NewRam (n : Nat) (w : World) (e : Ending) (w' : World) : Prop :=
  ∃ r fb g, w.heap.size ≤ r ∧ w.heap.size ≤ fb ∧ w.heap.size ≤ g ∧ e = .returned (.tuple #[.pointer (some ⟨r, 0, none⟩), .int .i64 0]) ∧
    RamAt w' r fb g (List.range n) (List.replicate (64 * n) 0) ∧ Keep [] w w'

theorem info_rows : (Try.prog.info? 48).map (fun i => (i.zero, i.size, i.bytes)) = some (some (.slice none 0 0), 1, 24) := by kernel_rfl

set_option maxHeartbeats 400000 in
theorem rnew_bad (n : Int) (w : World) (h1 : -9223372036854775808 ≤ n) (h2 : n ≤ 9223372036854775807) (h : n < 1 ∨ 512 < n) :
    Calls Try.prog 20 #[.int .i64 n] w fun e w' => e = .returned (.tuple #[.pointer none, .int .i64 2]) ∧ w = w' := by
  go_enter Try.func20, Try.ntmps20
  go_wp2_with fail
  all_goals first | (exfalso; omega) | (go_ret2; exact ⟨rfl, rfl⟩)

theorem make_u8 (k : Nat) (hk : k ≤ 140737488355328) (z : Int) (hz : z = (k : Int)) (W : World) :
    (Instr.makeSlice 48 (.int .i64 z) (.int .i64 z)).run Try.prog W = .ok (.slice (some ⟨W.heap.size, 0, none⟩) k k) (W.alloc (.cells (u8s (List.replicate k 0)).toArray 5)) := by
  obtain ⟨i0, hi, hz0, hz1, hz2⟩ := info_parts info_u8
  subst hz
  rw [run_make W 48 5 i0 (.int .u8 0) Try.underlying48 hi hz0 .i64 .i64 _ _ (by omega) (Int.le_refl _) (by rw [hz2]; omega) (by omega), hz1]
  have e : madeCells (Value.int .u8 0).cells ((k : Int).toNat * 1) = (u8s (List.replicate k 0)).toArray := by
    apply Array.toList_inj.1
    rw [show (Value.int .u8 0).cells = #[.int .u8 0] from rfl, toList_madeCells_one]
    simp [u8s]
  rw [e]
  simp

set_option maxRecDepth 100000 in
set_option maxHeartbeats 4000000 in
theorem rnew_good (n : Nat) (w : World) (h1 : 1 ≤ n) (h2 : n ≤ 512) :
    Calls Try.prog 20 #[.int .i64 n] w (NewRam n w) := by
  have j1 : ¬ ((n : Int) < 1) := by omega
  have j2 : ¬ ((512 : Int) < (n : Int)) := by omega
  have hmk := make_u8 (64 * n) (by omega) ((n : Int) * 64) (by omega)
  go_enter Try.func20, Try.ntmps20
  go_wp2_with fail
  obtain ⟨r, hr⟩ : ∃ r, r = w.heap.size := ⟨_, rfl⟩
  generalize hy : (w.alloc _).alloc _ = y
  have HY : Hid (y.heap[r]? = some (.cells #[.slice none 0 0] 121 (0, 0)) ∧ y.heap[r + 1]? = some (.cells (u8s (List.replicate (64 * n) 0)).toArray 5 (0, 0)) ∧ Keep [] w y ∧ r + 2 ≤ y.heap.size) := Lib.hid (by
    subst hy hr
    exact ⟨heap_alloc_other _ (heap_alloc_same _ _), heap_alloc_at _ (by simp), ((Keep.refl _ _).alloc _).alloc _, by simp⟩)
  rw [← hr]
  have HR := Lib.hid hr
  clear hy hr hmk j1 j2
  go_loopw [6, 7, 20] (fun _ _ kv wr => ∃ (k : Nat) (fv : Value), kv = .int .i64 k ∧ k ≤ n ∧ wr.heap[r]? = some (.cells #[fv] 121 (0, 0)) ∧ wr.heap[r + 1]? = some (.cells (u8s (List.replicate (64 * n) 0)).toArray 5 (0, 0)) ∧ wr.ownsRow (r + 2) 48 1 fv k (rowsV (r + 1) (List.range k)) ∧ Keep [] w wr ∧ r + 2 ≤ wr.heap.size) (fun _ _ kv _ => n - (intOf kv).toNat)
  case atStart => exact ⟨0, _, rfl, by omega, HY.out.1, HY.out.2.1, World.ownsRow_nil _ _ _ _, HY.out.2.2.1, HY.out.2.2.2⟩
  case round =>
    clear HY
    obtain ⟨k, fv, rfl, hk, hh, hg, hown, hK, hsz⟩ := hrel
    have HW := Lib.hid (And.intro hh (And.intro hg (And.intro hown (And.intro hK hsz))))
    by_cases hlt : k < n
    · have hcell : wr.cell? ⟨r, 0, none⟩ = some fv := cell_of hh 0 rfl
      have hfz := frozen_of hh 0
      obtain ⟨p, hp⟩ : ∃ p : Nat, p = 64 * k := ⟨_, rfl⟩
      have hkp : (k : Int) * 64 = (p : Int) := by omega
      obtain ⟨q, hq⟩ : ∃ q : Nat, q = p + 64 := ⟨_, rfl⟩
      have hw1 : IntKind.i64.wrap ((p : Int) + 64) = (q : Int) := by rw [IntWalk.i64_in _ (by omega)]; omega
      have hpq : p ≤ q := by omega
      have hqn : (q : Int) ≤ 64 * (n : Int) := by omega
      have hqp : q - p = 64 := by omega
      have hqp' : ¬ (q = p) := by omega
      have hnew : Hid (Value.slice (some ⟨r + 1, p, none⟩) 64 64 = .slice (some ⟨r + 1, 64 * k, none⟩) 64 64) := Lib.hid (by rw [hp])
      have HK1 : Hid (∀ x (w1 : World) (gg : Nat) (cap : Nat), Keep [] wr x → w1.ownsRow (r + 2) 48 1 (.slice (some ⟨gg, 0, none⟩) (k + 1) cap) (k + 1) (rowsV (r + 1) (List.range k) ++ [.slice (some ⟨r + 1, p, none⟩) 64 64]) → x.grownBy w1 fv.ownBlock →
          w1.cell? ⟨r, 0, none⟩ = some fv ∧ w1.frozen? ⟨r, 0, none⟩ = false ∧ (w1.setCell ⟨r, 0, none⟩ (.slice (some ⟨gg, 0, none⟩) (k + 1) cap)).heap[r]? = some (.cells #[.slice (some ⟨gg, 0, none⟩) (k + 1) cap] 121 (0, 0)) ∧
          (w1.setCell ⟨r, 0, none⟩ (.slice (some ⟨gg, 0, none⟩) (k + 1) cap)).heap[r + 1]? = some (.cells (u8s (List.replicate (64 * n) 0)).toArray 5 (0, 0)) ∧
          (w1.setCell ⟨r, 0, none⟩ (.slice (some ⟨gg, 0, none⟩) (k + 1) cap)).ownsRow (r + 2) 48 1 (.slice (some ⟨gg, 0, none⟩) (k + 1) cap) (k + 1) (rowsV (r + 1) (List.range (k + 1))) ∧
          Keep [] w (w1.setCell ⟨r, 0, none⟩ (.slice (some ⟨gg, 0, none⟩) (k + 1) cap)) ∧ r + 2 ≤ (w1.setCell ⟨r, 0, none⟩ (.slice (some ⟨gg, 0, none⟩) (k + 1) cap)).heap.size) := Lib.hid (by
        intro x w1 gg cap hx ho hgr
        have hlo : ∀ b, fv.ownBlock = some b → r + 2 ≤ b := fun b hb => (hown.lt b hb).1
        have hgk : Keep fv.ownBlock.toList x w1 := ⟨hgr.os, hgr.tape, hgr.output, hgr.size, fun b hb hn => hgr.block b hb (by intro e; rw [← e] at hn; simp at hn)⟩
        have hr1 : r ∉ fv.ownBlock.toList := by simp only [Option.mem_toList]; intro e; have := hlo r e; omega
        have hr2 : r + 1 ∉ fv.ownBlock.toList := by simp only [Option.mem_toList]; intro e; have := hlo (r + 1) e; omega
        have h1 : w1.heap[r]? = some (.cells #[fv] 121 (0, 0)) := hgk.heap (hx.heap hh (by simp)) hr1
        have h2 := hgk.heap (hx.heap hg (by simp)) hr2
        have hgg := ho.lt gg rfl
        refine ⟨cell_of h1 0 rfl, frozen_of h1 0, heap_set_same h1 0 _, by rw [heap_set_other (by omega)]; exact h2, ?_, ?_, ?_⟩
        · have e : rowsV (r + 1) (List.range (k + 1)) = rowsV (r + 1) (List.range k) ++ [.slice (some ⟨r + 1, p, none⟩) 64 64] := by
            rw [List.range_succ, rowsV, rowsV, List.map_append, hnew.out]; rfl
          rw [e]
          exact owns_keep ho ((Keep.refl [r] _).setCell (.inl (by simp)) _) (by intro b hb; simp [Value.ownBlock] at hb; simp; omega)
        · exact ((hK.trans hx).then hgk (fun b hb hlt => by
            rw [Option.mem_toList] at hb
            have := hlo b hb
            have := HR.out
            omega)).setCell (.inr (by have := HR.out; simp; omega)) _
        · have h3 := hx.size
          have h4 := hgr.size
          simp
          omega)
      have HO := Lib.hid hown
      have hc2 := ((Keep.refl [] wr).alloc (.cells #[.slice (some ⟨r + 1, p, none⟩) 64 64] 48)).cell hcell (by simp)
      obtain ⟨i1, hi, hz0, hz1, hz2⟩ := info_parts info_rows
      clear hh hg hown hK hp hq HW
      go_wp2_with fail
      go_region_law (refine step_append_lies _ (by rfl) (.tmp 29) (.tmp 37) 119 (by rfl) (r + 2) 48 i1 (.slice none 0 0) 1 24 Try.underlying119 hi hz0 hz1 hz2 rfl (by decide) fv k (rowsV (r + 1) (List.range k)) (by rfl) (owns_keep0 HO.out (by first | exact ((Keep.refl [] _).alloc _).drew | exact ((Keep.refl [] _).drew).alloc _)) ⟨_, 0, none⟩ 1 1 [.slice (some ⟨r + 1, p, none⟩) 64 64] (by rfl) rfl (World.news_of_block (heap_alloc_new _ _)) (by simp [Value.oneCell']) (by omega) (by unfold maxLen; omega) (by omega) (by simp; omega) _ rfl ?_; intro gg cap w1 hown1 hgrow _ _; have HX := Lib.hid (HK1.out _ w1 gg cap (by first | exact ((Keep.refl [] _).alloc _).drew | exact ((Keep.refl [] _).drew).alloc _) hown1 hgrow); clear hown1 hgrow; have hx1 := HX.out.1; have hx2 := HX.out.2.1)
      all_goals
        go_wp2_with fail
        go_roundw
        case rel => exact ⟨k + 1, _, by go_num, by omega, HX.out.2.2.1, HX.out.2.2.2.1, HX.out.2.2.2.2.1, HX.out.2.2.2.2.2.1, HX.out.2.2.2.2.2.2⟩
        case measure => simp [intOf]; omega
    · obtain rfl : k = n := by omega
      have HF : Hid (NewRam k w (.returned (.tuple #[.pointer (some ⟨r, 0, none⟩), .int .i64 0])) wr) := Lib.hid (by
        obtain ⟨gg, cap, rfl, hb, hgl⟩ := World.ownsRow.form hown (by omega)
        obtain ⟨q1, q2, cur, q3, q4⟩ : k ≤ cap ∧ cap ≤ maxLen ∧ ∃ cur : Array Value, wr.heap[gg]? = some (.cells cur 48 (0, 0)) ∧ cur.toList.take k = rowsV (r + 1) (List.range k) := by
          rcases hown.2 with ⟨e, _⟩ | ⟨g', cap', cur, e, _, hg', h1, h2, _, h4⟩
          · cases e
          · simp only [Value.slice.injEq, Option.some.injEq, Addr.mk.injEq] at e
            obtain ⟨⟨rfl, _⟩, _, rfl⟩ := e
            exact ⟨h1, h2, cur, hg', by simpa using h4⟩
        refine ⟨r, gg, r + 1, by rw [HR.out]; exact Nat.le_refl _, by have := HR.out; omega, by have := HR.out; omega, rfl, ⟨⟨cap, by rw [List.length_range]; exact ⟨hh, q1, q2⟩⟩, ⟨cur, q3, ?_⟩, hg, ?_, ?_, by simp; omega⟩, hK⟩
        · intro j hj
          rw [List.length_range] at hj
          have := congrArg (fun l => l[j]?) q4
          simp only [List.getElem?_take, hj, if_true, Array.getElem?_toList] at this
          rw [this]
          simp [rowsV, List.getD, hj]
        · intro x hx; rw [List.eq_of_mem_replicate hx]; omega
        · intro j hj
          simp only [List.length_range] at hj
          simp [List.getD, hj]; omega)
      clear hh hg hown hK HW
      go_wp2
      go_ret2
      exact HF.out
end Go.Proofs.Ytpinoejckagjbaa

/- A memory copied. -/
namespace Go.Proofs.Ytpinoejckagjbaa
open Go.RowKit Go.Mum

/-- All the bytes, frame behind frame. -/
def view (ks : List Nat) (L : List Int) : List Int := (List.range ks.length).flatMap (frameOf ks L)

theorem flat_length {f : Nat → List Int} {k : Nat} (h : ∀ j, j < k → (f j).length = 64) : ((List.range k).flatMap f).length = 64 * k := by
  induction k with
  | zero => rfl
  | succ k ih =>
    rw [List.range_succ, List.flatMap_append, List.length_append, ih (fun j hj => h j (by omega))]
    simp [h k (by omega)]
    omega

theorem flat_range (L : List Int) (n : Nat) : ∀ k, k ≤ n → (List.range k).flatMap (frameOf (List.range n) L) = L.take (64 * k) := by
  intro k
  induction k with
  | zero => intro _; simp
  | succ k ih =>
    intro hk
    rw [List.range_succ, List.flatMap_append, ih (by omega)]
    have e : frameOf (List.range n) L k = (L.drop (64 * k)).take 64 := by
      unfold frameOf
      simp [List.getD, List.getElem?_range (show k < n by omega)]
    simp only [List.flatMap_cons, List.flatMap_nil, List.append_nil, e]
    rw [show 64 * (k + 1) = 64 * k + 64 by omega, List.take_add]

theorem view_range {L : List Int} {n : Nat} (h : L.length = 64 * n) : view (List.range n) L = L := by
  unfold view
  rw [List.length_range, flat_range L n n (Nat.le_refl _), List.take_of_length_le (by omega)]

theorem pl_range {n a : Nat} (h : a < 64 * n) : pl (List.range n) a = a := by
  unfold pl
  simp [List.getD, List.getElem?_range (show a / 64 < n by omega)]
  omega

/-- What Copy leaves. -/
def CopyPost (n : Nat) (L : List Int) (w : World) (e : Ending) (w' : World) : Prop :=
  ∃ r fb g, w.heap.size ≤ r ∧ w.heap.size ≤ fb ∧ w.heap.size ≤ g ∧ e = .returned (.pointer (some ⟨r, 0, none⟩)) ∧ RamAt w' r fb g (List.range n) L ∧ Keep [] w w'

end Go.Proofs.Ytpinoejckagjbaa

/- The document's memory: its calls, one by one. -/
namespace Go.Proofs.Ytpinoejckagjbaa
open Go.RowKit Go.Mum

/-- The document's memory: its bytes L lie in a block of their own; or there is none. -/
def RefAt (w : World) (a : Option Addr) (L : List Int) : Prop :=
  ((a = none ∧ L = []) ∨ ∃ q, a = some ⟨q, 0, none⟩ ∧ w.heap[q]? = some (.cells (u8s L).toArray 5 (0, 0))) ∧ IsBytes L ∧ L.length ≤ 32768

theorem RefAt.keep {l : List Nat} {w x : World} {a : Option Addr} {L : List Int} (h : RefAt w a L) (hk : Keep l w x) (hn : ∀ b, a = some b → b.block ∉ l) : RefAt x a L :=
  ⟨h.1.imp id fun ⟨q, e, hq⟩ => ⟨q, e, hk.heap hq (by simpa using hn _ e)⟩, h.2⟩

theorem RefAt.keep0 {w x : World} {a : Option Addr} {L : List Int} (h : RefAt w a L) (hk : Keep [] w x) : RefAt x a L := h.keep hk (fun _ _ => by simp)

theorem RefAt.some_of {w : World} {a : Option Addr} {L : List Int} (h : RefAt w a L) (h0 : 0 < L.length) : ∃ q, a = some ⟨q, 0, none⟩ ∧ w.heap[q]? = some (.cells (u8s L).toArray 5 (0, 0)) := by
  rcases h.1 with ⟨_, rfl⟩ | h
  · simp at h0
  · exact h

theorem RefAt.row {w : World} {a : Option Addr} {L : List Int} (h : RefAt w a L) : Row w a L.length L := by
  refine ⟨h.2.1, ⟨Nat.le_refl _, by have := h.2.2; unfold maxLen; omega⟩, ?_⟩
  rcases h.1 with ⟨rfl, rfl⟩ | ⟨q, rfl, hq⟩
  · exact .inl ⟨rfl, rfl, rfl⟩
  · exact .inr (.inr ⟨q, 0, rfl, fun i hi => by rw [Nat.zero_add]; exact cell_of hq i (by simp [u8s, List.getElem?_eq_getElem hi, List.getD])⟩)

theorem u8_cell {w : World} {q : Nat} {L : List Int} {t : TypeId} (h : w.heap[q]? = some (.cells (u8s L).toArray t (0, 0))) {j : Nat} (hj : j < L.length) : w.cell? ⟨q, j, none⟩ = some (.int .u8 (L.getD j 0)) :=
  cell_of h j (by simp [u8s, List.getElem?_eq_getElem hj, List.getD])

theorem u8_byte {L : List Int} (h : IsBytes L) {j : Nat} (hj : j < L.length) : 0 ≤ L.getD j 0 ∧ L.getD j 0 < 256 := h _ (by simp [List.getD, List.getElem?_eq_getElem hj])

theorem u8_set {w : World} {q : Nat} {L : List Int} {t : TypeId} (h : w.heap[q]? = some (.cells (u8s L).toArray t (0, 0))) (j : Nat) (z : Int) : (w.setCell ⟨q, j, none⟩ (.int .u8 z)).heap[q]? = some (.cells (u8s (L.set j z)).toArray t (0, 0)) := by
  rw [heap_set_same h]
  simp [u8s, List.map_set]

/-- What a call that lays bytes leaves. -/
def FPost (a : Option Addr) (L' : List Int) (ok : Bool) (w : World) (e : Ending) (w' : World) : Prop :=
  e = .returned (.bool ok) ∧ RefAt w' a L' ∧ ∃ l, (∀ k ∈ l, ∃ q, a = some ⟨k, q, none⟩) ∧ Keep l w w'

theorem f_no {w : World} {a : Option Addr} {L : List Int} (h : RefAt w a L) (o : Obj) : FPost a L false w (.returned (.bool false)) (w.alloc o) :=
  ⟨rfl, h.keep0 ((Keep.refl _ _).alloc _), [], by simp, (Keep.refl _ _).alloc _⟩

end Go.Proofs.Ytpinoejckagjbaa
