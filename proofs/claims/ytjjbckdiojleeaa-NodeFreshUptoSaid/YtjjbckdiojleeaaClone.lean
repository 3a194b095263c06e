/- The contract of bytes.Clone. No condition but that the list lies in memory as a slice. -/
import Derived.Test.YtjjbckdiojleeaaRefa
import Derived.Test.YtjjbckdiojleeaaOwnb
import Derived.Test.YtjjbckdiojleeaaSpanb
import Derived.Lib.SliceRun
namespace Go.Proofs.Ytjjbckdiojleeaa
open Go.RowKit Go.Proofs
set_option maxRecDepth 20000 in
theorem clone_any {A : Option Addr} {c n : Nat} {bs : List UInt8} {w : World} (h : Sl w A c bs) (hn : n = bs.length) :
    Calls Try.prog 76 #[.slice A n c] w fun e w' => ∃ A' c', e = .returned (.slice A' bs.length c') ∧ Own 5 w.heap.size w' A' c' bs ∧ Ext w w' := by
  subst hn
  obtain ⟨i0, hi, hz0, hz1, hz2⟩ := info_parts infoU8
  have hl := h.len
  have he := fun W n => Lib.run_eql_slice_nil (P := Try.prog) W 24 5 A n c 0 0 Try.underlying24
  cases A with
  | none =>
    have hb : bs = [] := by
      cases bs with
      | nil => rfl
      | cons b bs => obtain ⟨_, _, hA, _⟩ := h.rd (by simp); cases hA
    subst hb
    go_enter Try.func76, Try.ntmps76
    go_wp2
    go_ret
    exact ⟨none, 0, rfl, ⟨rfl, .inl ⟨rfl, rfl⟩⟩, Below.refl _ _⟩
  | some ad =>
    obtain ⟨b, off, had⟩ : ∃ b off, bs ≠ [] → ad = ⟨b, off, none⟩ ∧ ∀ i, i < bs.length → w.cell? ⟨b, off + i, none⟩ = some (.int .u8 (at8 bs i)) := by
      by_cases h0 : bs = []
      · exact ⟨0, 0, fun h => absurd h0 h⟩
      · obtain ⟨b, off, hA, hc⟩ := h.rd (List.length_pos_iff.2 h0)
        injection hA with hA
        exact ⟨b, off, fun _ => ⟨hA, hc⟩⟩
    have hown : (w.alloc (.cells #[] 5)).ownsRow w.heap.size 5 1 (.slice (some ⟨w.heap.size, 0, none⟩) 0 0) 0 [] :=
      ⟨rfl, .inr ⟨w.heap.size, 0, #[], rfl, Nat.le_refl _, heap_alloc_new _ _, Nat.le_refl _, Nat.zero_le _, rfl, rfl⟩⟩
    have hnews : ∀ j u, (cells8 bs)[j]? = some u → (w.alloc (.cells #[] 5)).cell? (ad.add j) = some u := by
      intro j u hj
      have hjl : j < bs.length := by simpa [length_cells8] using (List.getElem?_eq_some_iff.1 hj).1
      obtain ⟨e, hc⟩ := had (fun e => by rw [e] at hjl; simp at hjl)
      rw [cells8_at hjl] at hj
      injection hj with hj
      subst e
      rw [Addr.add_lit, (ext_alloc w _).cell (hc j hjl), hj]
    go_enter Try.func76, Try.ntmps76
    go_wp2_with (at_builtin; refine wpList_append_own _ rfl _ _ 24 rfl w.heap.size 5 i0 (.int .u8 0) 1 1 Try.underlying24 hi hz0 hz1 hz2 rfl (by decide) _ _ _ rfl hown ad bs.length c (cells8 bs) rfl (by rw [length_cells8, Nat.mul_one]) hnews (cells8_one bs) (by simp [maxLen]; omega) (by omega) (by simp) ?_; intro v' w2 hown2 hgrow2 _)
    rw [Nat.zero_add, List.nil_append] at hown2
    have hE : Ext w w2 := (ext_alloc w _).grown hgrow2 (by simp) (fun j hj => by injection hj with hj; exact Nat.le_of_eq hj)
    obtain ⟨A', c', rfl⟩ := slice_of_own hown2
    clear hgrow2 hnews had hown
    go_wp2
    go_ret
    exact ⟨A', c', rfl, hown2, hE⟩
end Go.Proofs.Ytjjbckdiojleeaa
