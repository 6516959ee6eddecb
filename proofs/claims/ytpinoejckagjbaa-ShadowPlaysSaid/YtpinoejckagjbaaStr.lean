/- The bytes of a string, as a list. -/
import Derived.Test.YtpinoejckagjbaaBytes
namespace Go.Mum

theorem toList_loop (bs : ByteArray) : ∀ (n i : Nat) (r : List UInt8), bs.size - i = n → ByteArray.toList.loop bs i r = r.reverse ++ bs.data.toList.drop i := by
  intro n
  induction n with
  | zero =>
    intro i r h
    unfold ByteArray.toList.loop
    rw [if_neg (by omega)]
    have : bs.data.toList.length ≤ i := by simp; have : bs.size = bs.data.size := rfl; omega
    rw [List.drop_eq_nil_of_le this]; simp
  | succ n ih =>
    intro i r h
    unfold ByteArray.toList.loop
    have hi : i < bs.data.toList.length := by simp; have : bs.size = bs.data.size := rfl; omega
    rw [if_pos (by omega), ih (i + 1) _ (by omega), List.drop_eq_getElem_cons hi]
    simp
    rw [ByteArray.get!.eq_def]
    simp at hi
    simp [hi]

theorem toList_data (bs : ByteArray) : bs.toList = bs.data.toList := by
  unfold ByteArray.toList
  rw [toList_loop bs _ 0 [] rfl]; simp

/-- Two strings that differ. -/
theorem strs_differ {a b : List Int} (ha : IsBytes a) (hb : IsBytes b) (h : a ≠ b) : ((strOfNums a).toList == (strOfNums b).toList) = false := by
  rw [beq_eq_false_iff_ne]
  intro e
  rw [toList_data, toList_data] at e
  exact h (strOfNums_inj ha hb (ByteArray.ext (Array.toList_inj.1 e)))

end Go.Mum
