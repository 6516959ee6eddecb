/- What is laid in a memory: lay, SetByte, SetWord, Fill. -/
import Derived.Test.YtpinoejckagjbaaRamL
import Derived.Outline
namespace Go.Proofs.Ytpinoejckagjbaa
open Go.RowKit Go.Mum

/-- May so many bytes be laid there? -/
def layB (n a m al : Nat) : Bool := decide (a % al = 0 ∧ a + m ≤ 64 * n)
theorem layB_yes {n a m al : Nat} (h : a % al = 0 ∧ a + m ≤ 64 * n) : layB n a m al = true := decide_eq_true h
theorem layB_no {n a m al : Nat} (h : ¬ (a % al = 0 ∧ a + m ≤ 64 * n)) : layB n a m al = false := decide_eq_false h

/-- What a call that lays bytes leaves. -/
def LayPost (r fb g : Nat) (ks : List Nat) (L : List Int) (a : Nat) (M : List Int) (al : Nat) (w : World) (e : Ending) (w' : World) : Prop :=
  e = .returned (.bool (layB ks.length a M.length al)) ∧ RamAt w' r fb g ks (if layB ks.length a M.length al = true then putAt ks L a M else L) ∧ Keep [g] w w'

/-- The two method values that are handed on. -/
def mayV (v : Value) : Value := .func (.func 78) #[v] #[]
def atV (v : Value) : Value := .func (.func 79) #[v] #[]

set_option maxHeartbeats 1000000 in
theorem rlay_no {w : World} {v : Value} {n : Nat} (h : Sz w v n) (a : Nat) (ha : a < 4294967296) (al : Nat) (hal : al = 1 ∨ al = 4) {src : Option Addr} {c : Nat} (m : Nat) (hm : m ≤ 9223372036854775807)
    (hno : ¬ (a % al = 0 ∧ a + m ≤ 64 * n)) :
    Calls Try.prog 77 #[.int .u32 a, .slice src m c, .int .i64 al, .func (.func 78) #[v] #[], .func (.func 79) #[v] #[]] w fun e w' => e = .returned (.bool false) ∧ w = w' := by
  have C := rwithin_any h a m al ha hm hal
  rw [decide_eq_false hno] at C
  have C := Lib.hid C
  clear h hno
  go_enter Try.func77, Try.ntmps77
  go_wp2_with fail
  refine C.out.mono ?_
  rintro e w' ⟨rfl, rfl⟩
  go_wp2_with fail
  go_ret
  exact ⟨rfl, rfl⟩

theorem info_u8s : (Try.prog.info? 5).map (·.size) = some 1 := by kernel_rfl

set_option maxRecDepth 100000 in
set_option maxHeartbeats 4000000 in
theorem rlay_yes {w : World} {r fb g : Nat} {ks : List Nat} {L : List Int} (h : RamAt w r fb g ks L) (a : Nat) (al : Nat) (hal : al = 1 ∨ al = 4) {src : Option Addr} {c : Nat} {M : List Int}
    (hM : Row w src c M) (hsrc : ∀ b, src = some b → b.block ≠ g) (hyes : a % al = 0 ∧ a + M.length ≤ 64 * ks.length) :
    Calls Try.prog 77 #[.int .u32 a, .slice src M.length c, .int .i64 al, .func (.func 78) #[.pointer (some ⟨r, 0, none⟩)] #[], .func (.func 79) #[.pointer (some ⟨r, 0, none⟩)] #[]] w
      (LayPost r fb g ks L a M al w) := by
  have hs := h.size
  have C := rwithin_any h.sz a M.length al (by omega) (by omega) hal
  rw [decide_eq_true hyes] at C
  have C := Lib.hid C
  have HP : Hid (∀ w', RamAt w' r fb g ks (putAt ks L a M) → Keep [g] w w' → LayPost r fb g ks L a M al w (.returned (.bool true)) w') := Lib.hid fun w' h1 h2 => ⟨by rw [layB_yes hyes], by rw [if_pos (layB_yes hyes)]; exact h1, h2⟩
  have hyl := hyes.2
  have H := Lib.hid (And.intro h (And.intro hM hsrc))
  clear h hM hyes hsrc
  go_enter Try.func77, Try.ntmps77
  go_wp2_with fail
  refine C.out.mono ?_
  rintro e w' ⟨rfl, rfl⟩
  go_wp2_with fail
  have hsr : (src = none ∨ ∃ b off, src = some (⟨b, off, none⟩ : Addr)) ∨ M = [] := by
    rcases H.out.2.1.at' with ⟨h1, _⟩ | ⟨h1, _⟩ | ⟨b, off, h1, _⟩
    · exact .inl (.inl h1)
    · exact .inr h1
    · exact .inl (.inr ⟨b, off, h1⟩)
  go_loopw [0, 1, 11] (fun av bv _ wr => ∃ (P N : List Int) (s' : Option Addr) (c' k m : Nat), av = .int .u32 k ∧ bv = .slice s' m c' ∧ k = a + P.length ∧ m = N.length ∧ P.length + N.length = M.length ∧ P ++ N = M ∧ Row wr s' c' N ∧ (∀ b, s' = some b → b.block ≠ g) ∧ RamAt wr r fb g ks (putAt ks L a P) ∧ Keep [g] w wr) (fun _ bv _ _ => (match bv with | .slice _ n _ => n | _ => 0))
  case atStart => exact ⟨[], M, src, c, a, M.length, rfl, rfl, by simp, rfl, by simp, rfl, H.out.2.1, H.out.2.2, H.out.1, Keep.refl _ _⟩
  case round =>
    obtain ⟨P, N, s', c', k, m, rfl, rfl, hk, hm, hpn, hPN, hR, hne, hA, hK⟩ := hrel
    have Hk := Lib.hid (And.intro hk (And.intro hm hPN))
    have hkl : k + N.length ≤ 64 * ks.length := by omega
    by_cases hlt : 0 < m
    · obtain ⟨b, off, rfl⟩ := hR.some_of (by omega)
      have D := Lib.hid (rat_at hA k (by omega))
      have hpl := hA.pl_lt (a := k) (by omega)
      have hpe : pl ks k = 64 * ks.getD (k / 64) 0 + k % 64 := rfl
      have HR := Lib.hid (And.intro hR (And.intro hA (And.intro hK (hne _ rfl))))
      have HF := Lib.hid (putAt_frame ks (N.take (64 - k % 64)) (putAt ks L a P) k (by rw [List.length_take]; omega) (by rw [List.length_take]; omega))
      have hca : (m : Int) ≤ (c' : Int) := by have := hR.cap.1; omega
      have hfit : pl ks k + (64 - k % 64) ≤ (putAt ks L a P).length := by omega
      obtain ⟨q, hq⟩ : ∃ q, q = (N.take (64 - k % 64)).length := ⟨_, rfl⟩
      have hq' : q = min (64 - k % 64) N.length := by rw [hq, List.length_take]
      have hqm : (q : Int) ≤ (m : Int) := by omega
      have hq0 : 0 < q := by omega
      have hk9 : (k : Int) + (q : Int) ≤ 32768 := by omega
      have hNq : N.take q = N.take (64 - k % 64) := by
        rw [hq', ← List.take_eq_take_min]
      have HQ := Lib.hid (And.intro hq hNq)
      have hw1 : IntKind.u32.wrap (q : Int) = (q : Int) := by rw [IntKind.wrap_u32]; omega
      have HE : Hid (∀ x, x.heap[g]? = some (.cells (u8s (splice (putAt ks L a P) (pl ks k) (N.take (64 - k % 64)))).toArray 5 (0, 0)) → Keep [g] wr x → RamAt x r fb g ks (putAt ks L a (P ++ N.take q)) ∧ Row x (some ⟨b, off, none⟩) c' N ∧ Keep [g] w x) := Lib.hid fun x h1 h2 => by
        have hA := HR.out.2.1
        have hs' : splice (putAt ks L a P) (pl ks k) (N.take (64 - k % 64)) = putAt ks L a (P ++ N.take q) := by rw [putAt_append, hNq, ← HF.out, Hk.out.1]
        rw [hs'] at h1
        exact ⟨hA.put h2 h1 (by rw [putAt_length, putAt_length]) (putAt_bytes _ _ _ _ H.out.1.bytes (fun y hy => by
          rcases List.mem_append.1 hy with hy | hy
          · exact H.out.2.1.bytes y (by rw [← Hk.out.2.2]; simp [hy])
          · exact HR.out.1.bytes y (List.mem_of_mem_take hy))), HR.out.1.keep h2 (by simp only [Option.some.injEq, forall_eq']; simpa using HR.out.2.2.2), HR.out.2.2.1.trans h2⟩
      clear hR hA hne hk hm hpn hPN hK hpl hpe hq hq' hNq
      by_cases hcq : c' = q
      · subst hcq
        have hmq : m = c' := by omega
        subst hmq
        go_wp2_with fail
        refine D.out.mono ?_
        rintro e w' ⟨rfl, rfl⟩
        go_wp2_with (with_reducible refine wpList_copy_row rfl (.tmp 24) (.tmp 25) 48 48 rfl 5 Try.underlying48 info_u8s g (pl ks k) (64 - k % 64) (64 - k % 64) m m (some ⟨b, off, none⟩) rfl rfl N Hk.out.2.1 HR.out.1 (putAt ks L a P) 5 HR.out.2.1.data hfit m HQ.out.1 ?_; intro w2 hw2 hk2; have HZ := Lib.hid (HE.out w2 hw2 hk2); clear hw2 hk2)
        go_roundw
        case rel =>
          have hq := HQ.out.1
          rw [List.length_take] at hq
          have hm := Hk.out.2.1
          exact ⟨P ++ N.take m, N.drop m, some ⟨b, off, none⟩, m - m, k + m, m - m, by go_num, by simp, by rw [Hk.out.1, List.length_append, List.length_take]; omega, by rw [List.length_drop, Hk.out.2.1], by rw [List.length_append, List.length_take, List.length_drop, ← Hk.out.2.2, List.length_append]; omega, by rw [List.append_assoc, List.take_append_drop]; exact Hk.out.2.2, (by rw [List.drop_eq_nil_of_le (by omega)]; exact ⟨(by intro x hx; cases hx), ⟨by simp, by unfold maxLen; omega⟩, .inr (.inl ⟨rfl, _, rfl⟩)⟩), by simp only [Option.some.injEq, forall_eq']; exact HR.out.2.2.2, HZ.out.1, HZ.out.2.2⟩
        case measure => simp; omega
      · go_wp2_with fail
        refine D.out.mono ?_
        rintro e w' ⟨rfl, rfl⟩
        go_wp2_with (with_reducible refine wpList_copy_row rfl (.tmp 24) (.tmp 25) 48 48 rfl 5 Try.underlying48 info_u8s g (pl ks k) (64 - k % 64) (64 - k % 64) m c' (some ⟨b, off, none⟩) rfl rfl N Hk.out.2.1 HR.out.1 (putAt ks L a P) 5 HR.out.2.1.data hfit q HQ.out.1 ?_; intro w2 hw2 hk2; have HZ := Lib.hid (HE.out w2 hw2 hk2); clear hw2 hk2)
        go_roundw
        case rel =>
          have hq := HQ.out.1
          rw [List.length_take] at hq
          have hm := Hk.out.2.1
          exact ⟨P ++ N.take q, N.drop q, some ⟨b, off + q, none⟩, c' - q, k + q, m - q, by go_num, rfl, by rw [Hk.out.1, List.length_append, List.length_take]; omega, by rw [List.length_drop, Hk.out.2.1], by rw [List.length_append, List.length_take, List.length_drop, ← Hk.out.2.2, List.length_append]; omega, by rw [List.append_assoc, List.take_append_drop]; exact Hk.out.2.2, HZ.out.2.1.drop q (by omega), by simp only [Option.some.injEq, forall_eq']; exact HR.out.2.2.2, HZ.out.1, HZ.out.2.2⟩
        case measure => simp; omega
    · obtain rfl : m = 0 := by omega
      have hN : N = [] := List.eq_nil_of_length_eq_zero (by omega)
      have HF : Hid (LayPost r fb g ks L a M al w (.returned (.bool true)) wr) := Lib.hid (by
        subst hN
        rw [List.append_nil] at hPN
        subst hPN
        exact HP.out _ hA hK)
      clear hR hA hne hk hm hpn hPN hK hN
      go_wp2
      go_ret
      exact HF.out

theorem rlay_any {w : World} {r fb g : Nat} {ks : List Nat} {L : List Int} (h : RamAt w r fb g ks L) (a : Nat) (ha : a < 4294967296) (al : Nat) (hal : al = 1 ∨ al = 4) {src : Option Addr} {c : Nat} {M : List Int}
    (hM : Row w src c M) (hsrc : ∀ b, src = some b → b.block ≠ g) (hl : M.length ≤ 9223372036854775807) :
    Calls Try.prog 77 #[.int .u32 a, .slice src M.length c, .int .i64 al, .func (.func 78) #[.pointer (some ⟨r, 0, none⟩)] #[], .func (.func 79) #[.pointer (some ⟨r, 0, none⟩)] #[]] w
      (LayPost r fb g ks L a M al w) := by
  by_cases hyes : a % al = 0 ∧ a + M.length ≤ 64 * ks.length
  · exact rlay_yes h a al hal hM hsrc hyes
  · refine (rlay_no h.sz a ha al hal M.length hl hyes).mono ?_
    rintro e w' ⟨rfl, rfl⟩
    exact ⟨by rw [layB_no hyes], by rw [if_neg (by rw [layB_no hyes]; simp)]; exact h, Keep.refl _ _⟩

theorem lay_then {r fb g : Nat} {ks : List Nat} {L : List Int} {a : Nat} {M : List Int} {al : Nat} {w x w' : World} {e : Ending} (hk : Keep [g] w x) (h : LayPost r fb g ks L a M al x e w') : LayPost r fb g ks L a M al w e w' :=
  ⟨h.1, h.2.1, hk.trans h.2.2⟩

theorem row_one (w : World) (z : Int) (h0 : 0 ≤ z ∧ z < 256) : Row (w.alloc (.cells #[.int .u8 z] 5)) (some ⟨w.heap.size, 0, none⟩) 1 [z] :=
  ⟨by intro x hx; simp at hx; omega, ⟨Nat.le_refl _, by unfold maxLen; omega⟩, .inr <| .inr ⟨_, _, rfl, fun i hi => by
    obtain rfl : i = 0 := by simpa using hi
    exact cell_of (heap_alloc_same w _) 0 rfl⟩⟩

theorem row_four (w : World) (z0 z1 z2 z3 : Int) (h : IsBytes [z0, z1, z2, z3]) : Row (w.alloc (.cells #[.int .u8 z0, .int .u8 z1, .int .u8 z2, .int .u8 z3] 5)) (some ⟨w.heap.size, 0, none⟩) 4 [z0, z1, z2, z3] :=
  ⟨h, ⟨Nat.le_refl _, by unfold maxLen; simp⟩, .inr <| .inr ⟨_, _, rfl, fun i hi => by
    simp only [List.length_cons, List.length_nil] at hi
    match i, hi with
    | 0, _ => exact cell_of (heap_alloc_same w _) 0 rfl
    | 1, _ => exact cell_of (heap_alloc_same w _) 1 rfl
    | 2, _ => exact cell_of (heap_alloc_same w _) 2 rfl
    | 3, _ => exact cell_of (heap_alloc_same w _) 3 rfl⟩⟩

/-- A word's four bytes. -/
def le4 (s : Nat) : List Int := [(s : Int) % 256, (s : Int) / 256 % 256, (s : Int) / 65536 % 256, (s : Int) / 16777216]

theorem le4_bytes {s : Nat} (hs : s < 4294967296) : IsBytes (le4 s) := by
  intro x hx
  simp only [le4, List.mem_cons, List.not_mem_nil, or_false] at hx
  rcases hx with rfl | rfl | rfl | rfl <;> omega

set_option maxHeartbeats 1000000 in
theorem rfill_any {w : World} {r fb g : Nat} {ks : List Nat} {L : List Int} (h : RamAt w r fb g ks L) (a : Nat) (ha : a < 4294967296) {src : Option Addr} {c : Nat} {M : List Int}
    (hM : Row w src c M) (hsrc : ∀ b, src = some b → b.block ≠ g) (hl : M.length ≤ 9223372036854775807) :
    Calls Try.prog 44 #[.pointer (some ⟨r, 0, none⟩), .int .u32 a, .slice src M.length c] w (LayPost r fb g ks L a M 1 w) := by
  have C := Lib.hid (rlay_any h a ha 1 (.inl rfl) hM hsrc hl)
  have hmf : ∀ (fn : Fn) (first cap : Array Value) (w : World), (Instr.makeFunc fn first cap).run Try.prog w = .ok (.func fn first cap) w := fun _ _ _ _ => rfl
  clear h hM hsrc hl
  go_enter Try.func44, Try.ntmps44
  go_wp2_with fail
  refine C.out.mono ?_
  rintro e w' HL
  obtain ⟨rfl, hr⟩ := id HL
  have HL := Lib.hid HL
  clear hr
  go_wp2_with fail
  go_ret
  exact HL.out

set_option maxHeartbeats 1000000 in
theorem rsetword_any {w : World} {r fb g : Nat} {ks : List Nat} {L : List Int} (h : RamAt w r fb g ks L) (a : Nat) (ha : a < 4294967296) (z : Nat) (hz : z < 4294967296) :
    Calls Try.prog 82 #[.pointer (some ⟨r, 0, none⟩), .int .u32 a, .int .u32 z] w (LayPost r fb g ks L a (le4 z) 4 w) := by
  have hK : ∀ o, Keep [g] w (w.alloc o) := fun o => (Keep.refl _ _).alloc o
  have C := Lib.hid ((rlay_any (h.keep0 ((Keep.refl [] w).alloc _)) a ha 4 (.inr rfl) (row_four w _ _ _ _ (le4_bytes hz)) (by have := h.lt.2.2; simp only [Option.some.injEq, forall_eq']; omega) (by simp)).mono fun e w' => lay_then (hK _))
  have hmf : ∀ (fn : Fn) (first cap : Array Value) (w : World), (Instr.makeFunc fn first cap).run Try.prog w = .ok (.func fn first cap) w := fun _ _ _ _ => rfl
  clear h hK
  go_enter Try.func82, Try.ntmps82
  go_wp2_with fail
  refine C.out.mono ?_
  rintro e w' HL
  obtain ⟨rfl, hr⟩ := id HL
  have HL := Lib.hid HL
  clear hr
  go_wp2_with fail
  go_ret
  exact HL.out

/-- Of a receiver that has no such place. -/
theorem none_then {w x w' : World} {e : Ending} (hk : Keep [] w x) (h : e = .returned (.bool false) ∧ x = w') : e = .returned (.bool false) ∧ Keep [] w w' := ⟨h.1, h.2 ▸ hk⟩

end Go.Proofs.Ytpinoejckagjbaa
