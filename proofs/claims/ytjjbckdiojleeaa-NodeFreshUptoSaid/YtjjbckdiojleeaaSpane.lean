/- Contracts of the reference's functions that make a key: Next, From, greater, lesser; of span's more and less. No condition but that each list lies in memory as a slice. -/
import Derived.Test.YtjjbckdiojleeaaSpanb
import Derived.Test.YtjjbckdiojleeaaOwnb
namespace Go.Proofs.Ytjjbckdiojleeaa
open Go.RowKit Go.Proofs
theorem cpy_any {A : Option Addr} {c n : Nat} {bs : List UInt8} {w : World} (h : Sl w A c bs) (hn : n = bs.length) :
    Calls Try.prog 33 #[.slice A n c] w fun e w' => ∃ A' c', e = .returned (.slice A' bs.length c') ∧ Own 5 w.heap.size w' A' c' bs ∧ Ext w w' := by
  subst hn
  exact copyBytes_any h
theorem cmp_any {A B : Option Addr} {c d n m : Nat} {xs ys : List UInt8} {w : World} (ha : Sl w A c xs) (hb : Sl w B d ys) (hn : n = xs.length) (hm : m = ys.length) :
    Calls Try.prog 53 #[.slice A n c, .slice B m d] w fun e w' => e = .returned (.int .i64 (cmpB xs ys)) ∧ Ext w w' := by
  subst hn
  subst hm
  exact compare_any ha hb
theorem bcmp_any {A B : Option Addr} {c d n m : Nat} {xs ys : List UInt8} {w : World} (ha : Sl w A c xs) (hb : Sl w B d ys) (hn : n = xs.length) (hm : m = ys.length) :
    Calls Try.prog 52 #[.slice A n c, .slice B m d] w fun e w' => e = .returned (.int .i64 (cmpB xs ys)) ∧ Ext w w' := by
  subst hn
  subst hm
  exact bcompare_any ha hb
theorem at_take {bs : List UInt8} {j k : Nat} (h : j < k) : at8 (bs.take k) j = at8 bs j := by
  unfold at8
  simp only [List.getD_eq_getElem?_getD]
  rw [List.getElem?_take, if_pos h]
theorem Stem.set_up {bs : List UInt8} {k : Nat} (h : Stem bs (k + 1)) (he : at8 bs k ≠ 255) : (bs.take (k + 1)).set k (b8 (at8 bs k + 1)) = upB bs := (h.up_succ he).symm
end Go.Proofs.Ytjjbckdiojleeaa
