/- What the model's entry for internal/bytealg.Compare answers, and the contract of bytes.Compare. No condition but that each list lies in memory as a slice. -/
import Derived.Test.YtijlaknfagpglaaRefa
import Derived.Lib.BytesEntry
import Derived.Laws.StandIn
namespace Go.Proofs.Ytijlaknfagpglaa
open Go.RowKit Go.Proofs
theorem run_load8 {P : Program} {w : World} {A : Option Addr} {c : Nat} {xs : List UInt8} (h : Rd w A xs) : (Extern.Bytes.bytesOf (.slice A xs.length c)).run P w = .ok ⟨xs.toArray⟩ w := by
  cases xs with
  | nil =>
    cases A with
    | none => rfl
    | some a => rfl
  | cons x xs =>
    obtain ⟨b, off, rfl, hc⟩ := h (by simp)
    have e := Lib.run_loadBytesX (P := P) w ((x :: xs).map fun b => (b.toNat : Int)) ⟨b, off, none⟩ .empty (fun j y hj => by
      rw [List.getElem?_map] at hj
      obtain ⟨z, hz, rfl⟩ := Option.map_eq_some_iff.1 hj
      have hl := (List.getElem?_eq_some_iff.1 hz).1
      rw [Addr.add_lit, hc j hl]
      unfold at8
      rw [List.getD_eq_getElem?_getD, hz]
      rfl)
    rw [List.length_map] at e
    show (Extern.Bytes.loadBytes ⟨b, off, none⟩ (x :: xs).length .empty).run P w = _
    rw [e]
    congr 2
    simp [Lib.bytesOf, Function.comp_def, ByteArray.empty, ByteArray.emptyWithCapacity]
    rfl
theorem ba_get (l : List UInt8) (i : Nat) (h : i < l.length) : (⟨l.toArray⟩ : ByteArray)[i]! = l[i] := by
  have : i < (⟨l.toArray⟩ : ByteArray).size := by simpa [ByteArray.size] using h
  exact getElem!_pos (⟨l.toArray⟩ : ByteArray) i this
theorem cmp_eq (a b : List UInt8) : Extern.BytealgCompare.cmp ⟨a.toArray⟩ ⟨b.toArray⟩ = cmpB a b := by
  unfold Extern.BytealgCompare.cmp
  have sa : (⟨a.toArray⟩ : ByteArray).size = a.length := rfl
  have sb : (⟨b.toArray⟩ : ByteArray).size = b.length := rfl
  rw [sa, sb]
  have key : ∀ k, k ≤ min a.length b.length → (∀ i, i < k → ¬ ((⟨a.toArray⟩ : ByteArray)[i]! != (⟨b.toArray⟩ : ByteArray)[i]!) = true) → Agree a b k := by
    intro k
    induction k with
    | zero => intros; exact Agree.zero _ _
    | succ k ih =>
      intro hk hall
      have hka : k < a.length := by omega
      have hkb : k < b.length := by omega
      refine (ih (by omega) fun i hi => hall i (by omega)).succ hka hkb ?_
      have := hall k (by omega)
      rw [ba_get a k hka, ba_get b k hkb] at this
      rw [at8_eq hka hkb]
      simpa using this
  cases hf : (List.range (min a.length b.length)).find? fun i => (⟨a.toArray⟩ : ByteArray)[i]! != (⟨b.toArray⟩ : ByteArray)[i]! with
  | some i =>
    obtain ⟨hp, hin, hbef⟩ := List.find?_range_eq_some.1 hf
    have hin' : i < min a.length b.length := by simpa using hin
    have hka : i < a.length := by omega
    have hkb : i < b.length := by omega
    have hag := key i (by omega) (fun j hj => by simpa using hbef j hj)
    simp only [ba_get a i hka, ba_get b i hkb] at hp ⊢
    have hne : a[i] ≠ b[i] := by simpa using hp
    split
    · rename_i hlt
      exact (hag.lt hka hkb ((at8_lt hka hkb).2 hlt)).symm
    · rename_i hlt
      have : b[i] < a[i] := UInt8.lt_of_le_of_ne (UInt8.not_lt.1 hlt) (Ne.symm hne)
      exact (hag.gt hka hkb ((at8_lt hkb hka).2 this)).symm
  | none =>
    have hall : ∀ i, i < min a.length b.length → ¬ ((⟨a.toArray⟩ : ByteArray)[i]! != (⟨b.toArray⟩ : ByteArray)[i]!) = true := fun i hi => by
      have := List.find?_range_eq_none.1 hf i hi
      simpa using this
    have hag := key _ (Nat.le_refl _) hall
    show (if a.length < b.length then -1 else if a.length > b.length then 1 else 0) = _
    by_cases h1 : a.length < b.length
    · rw [if_pos h1]
      rw [Nat.min_eq_left (by omega)] at hag
      exact (hag.short h1).symm
    · rw [if_neg h1]
      by_cases h2 : b.length < a.length
      · rw [if_pos h2]
        rw [Nat.min_eq_right (by omega)] at hag
        exact (hag.long h2).symm
      · rw [if_neg h2]
        rw [Nat.min_eq_left (by omega)] at hag
        exact (hag.same (by omega)).symm
theorem run_bcompare {A B : Option Addr} {c d : Nat} {xs ys : List UInt8} {w : World} (ha : Rd w A xs) (hb : Rd w B ys) :
    (callFunc 67 #[.slice A xs.length c, .slice B ys.length d]).run Try.prog w = .ok (.value (.int .i64 (cmpB xs ys))) w := by
  rw [run_callFunc_standIn Try.func67 (by kernel_rfl) (by kernel_rfl) (by kernel_rfl) (by kernel_rfl) (e := Extern.BytealgCompare.compare)]
  have e : ∀ x y, Extern.BytealgCompare.compare #[x, y] = (do pure (goInt (Extern.BytealgCompare.cmp (← Extern.Bytes.bytesOf x) (← Extern.Bytes.bytesOf y)))) := fun _ _ => rfl
  rw [e]
  simp only [Sem.run_bind, run_load8 ha, run_load8 hb, Result.andThen_ok, cmp_eq]
  rfl
theorem bcompare_any {A B : Option Addr} {c d : Nat} {xs ys : List UInt8} {w : World} (ha : Sl w A c xs) (hb : Sl w B d ys) :
    Calls Try.prog 43 #[.slice A xs.length c, .slice B ys.length d] w fun e w' => e = .returned (.int .i64 (cmpB xs ys)) ∧ Ext w w' := by
  have hrun := run_bcompare (c := c) (d := d) ha.rd hb.rd
  go_enter Try.func43, Try.ntmps43
  go_wp2
  go_ret
  exact ⟨rfl, Below.refl _ _⟩
end Go.Proofs.Ytijlaknfagpglaa
