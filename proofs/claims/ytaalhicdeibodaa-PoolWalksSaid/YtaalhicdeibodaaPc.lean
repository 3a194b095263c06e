/- Layer 10: what is done and undone: turn with its tallies, act, what undoes it. No condition but the sizes. -/
import Derived.Test.YtaalhicdeibodaaPb
namespace Go.Proofs.Ytaalhicdeibodaa
open Go.RowKit Go.Proofs Go.Shelf
set_option linter.unusedVariables false
attribute [local go_sem] Oper.semAt_some
def taL (sts : List Int) : List Int := [0, talOf sts 1, talOf sts 2, talOf sts 3, talOf sts 4]
theorem taL_at (sts : List Int) {j : Nat} (hj : j < 5) : (taL sts).getD j 0 = talOf sts j := by
  match j, hj with
  | 0, _ => rfl
  | 1, _ => rfl
  | 2, _ => rfl
  | 3, _ => rfl
  | 4, _ => rfl
theorem list5 {l : List Int} (h : l.length = 5) {sts : List Int} (he : ∀ j : Nat, j < 5 → l.getD j 0 = talOf sts j) : l = taL sts := by
  obtain ⟨a, b, c, d, e, rfl⟩ : ∃ a b c d e, l = [a, b, c, d, e] := by
    match l, h with
    | [a, b, c, d, e], _ => exact ⟨a, b, c, d, e, rfl⟩
  have h0 : a = 0 := he 0 (by decide)
  have h1 : b = talOf sts 1 := he 1 (by decide)
  have h2 : c = talOf sts 2 := he 2 (by decide)
  have h3 : d = talOf sts 3 := he 3 (by decide)
  have h4 : e = talOf sts 4 := he 4 (by decide)
  rw [h0, h1, h2, h3, h4]
  rfl
theorem getD_set (l : List Int) (i j : Nat) (z : Int) (hi : i < l.length) : (l.set i z).getD j 0 = if i = j then z else l.getD j 0 := by
  rw [List.getD_eq_getElem?_getD, List.getElem?_set]
  by_cases e : i = j
  · rw [if_pos e, if_pos e, if_pos hi]
    rfl
  · rw [if_neg e, if_neg e, List.getD_eq_getElem?_getD]
theorem turnT_tal {sts : List Int} {k : Nat} (hk : k < sts.length) {sb sn : Nat} (hb : 1 ≤ sb ∧ sb ≤ 4) (hn : 1 ≤ sn ∧ sn ≤ 4) (hs : sts.getD k 0 = (sb : Int)) : turnT sb sn (taL sts) = taL (sts.set k (sn : Int)) := by
  have h5 : (taL sts).length = 5 := rfl
  refine list5 (by simp [turnT, taL]) fun j hj => ?_
  unfold turnT
  rw [getD_set _ _ _ _ (by rw [List.length_set, h5]; omega), getD_set _ _ _ _ (by rw [h5]; omega), getD_set _ _ _ _ (by rw [h5]; omega), taL_at _ hj, taL_at _ (show sb < 5 by omega), taL_at _ (show sn < 5 by omega)]
  by_cases hj0 : j = 0
  · subst hj0
    rw [if_neg (by omega), if_neg (by omega)]
    rfl
  · rw [tal_set hk (j : Int) ⟨by omega, by omega⟩, hs]
    by_cases e1 : sn = j
    · subst e1
      rw [if_pos rfl, if_pos rfl]
      by_cases e2 : sb = sn
      · subst e2
        rw [if_pos rfl, if_pos rfl]
      · rw [if_neg e2, if_neg (by omega)]
        omega
    · rw [if_neg e1, if_neg (show ¬ (sn : Int) = (j : Int) by omega)]
      by_cases e2 : sb = j
      · subst e2
        rw [if_pos rfl, if_pos rfl]
        omega
      · rw [if_neg e2, if_neg (show ¬ (sb : Int) = (j : Int) by omega)]
        omega
/-- A pool whose tallies and free pages are those of its counts. -/
def PoolC (B : Nat) (w : World) (m : Pm) (refs : Int) (cnt : List Int) (last : List Bool) (az : List (Int × Int)) (fl : Int) : Prop :=
  ∃ L, PoolM B w m refs cnt last L (taL (stsOf cnt last)) az fl ∧ FreeL (stsOf cnt last) L
/-- What a call has turned. -/
structure Moved (m m' : Pm) (w w' : World) : Prop where
  p : m'.p = m.p
  x : Exc (fun q _ => m.foot q) w w'
  foot : ∀ q, m'.foot q → m.foot q ∨ w.heap.size ≤ q
theorem Moved.refl (m : Pm) (w : World) : Moved m m w w := ⟨rfl, exc_refl _ _, fun _ h => .inl h⟩
theorem Moved.of_ext {m : Pm} {w w' : World} (h : Ext w w') : Moved m m w w' := ⟨rfl, Exc.of_ext h, fun _ h => .inl h⟩
theorem Moved.trans {m m1 m2 : Pm} {w w1 w2 : World} (h : Moved m m1 w w1) (k : Moved m1 m2 w1 w2) : Moved m m2 w w2 := by
  refine ⟨k.p.trans h.p, ⟨k.x.os.trans h.x.os, k.x.tape.trans h.x.tape, k.x.output.trans h.x.output, Nat.le_trans h.x.size k.x.size, fun q o ho hn => ?_⟩, fun q hq => ?_⟩
  · have h1 := h.x.block q o ho hn
    refine k.x.block q o h1 fun e => ?_
    rcases h.foot q e with e | e
    · exact hn e
    · have := (Array.getElem?_eq_some_iff.1 ho).1
      omega
  · rcases k.foot q hq with e | e
    · exact h.foot q e
    · exact .inr (Nat.le_trans h.x.size e)
section
variable {B : Nat} {w : World} {m : Pm} {refs : Int} {cnt : List Int} {last : List Bool} {L : List Rn} {ta : List Int} {az : List (Int × Int)} {fl : Int}
theorem PoolC.ext {w' : World} (h : PoolC B w m refs cnt last az fl) (hx : Ext w w') : PoolC B w' m refs cnt last az fl := by
  obtain ⟨L, h1, h2⟩ := h
  exact ⟨L, h1.ext hx, h2⟩
theorem PoolC.exc {D : Nat → Obj → Prop} {w' : World} (h : PoolC B w m refs cnt last az fl) (hx : Exc D w w') (hd : ∀ q o, m.foot q → ¬ D q o) : PoolC B w' m refs cnt last az fl := by
  obtain ⟨L, h1, h2⟩ := h
  exact ⟨L, h1.exc hx hd, h2⟩
theorem PoolC.foot_lt (h : PoolC B w m refs cnt last az fl) {q : Nat} (hq : m.foot q) : B ≤ q ∧ q < w.heap.size := by
  obtain ⟨L, h1, _⟩ := h
  exact h1.foot_lt hq
theorem turnC_any (h : PoolC B w m refs cnt last az fl) (hl : last.length = cnt.length) (h6 : cnt.length ≤ 65536) {n b : Int} (h1 : 1 ≤ n) (h2 : n ≤ cnt.length) (hb : -1 ≤ b ∧ b ≤ 1)
    (hc : 0 ≤ cnt.getD (n - 1).toNat 0 ∧ cnt.getD (n - 1).toNat 0 ≤ 65536) (hBw : B ≤ w.heap.size) :
    Calls Try.prog 64 #[.pointer (some ⟨m.p, 0, none⟩), .int .i64 n, .int .i64 b] w fun e w' => ∃ A' c', e = .returned (.tuple #[]) ∧
      PoolC B w' { m with fA := A', fc := c' } refs (bump cnt n b) last az fl ∧ Moved m { m with fA := A', fc := c' } w w' := by
  obtain ⟨L, hM, hF⟩ := h
  obtain ⟨k, rfl⟩ : ∃ k : Nat, n = (k : Int) + 1 := ⟨(n - 1).toNat, by omega⟩
  have hkn : ((k : Int) + 1 - 1).toNat = k := by omega
  rw [hkn] at hc
  have hk : k < cnt.length := by omega
  have hsl := sts_len hl
  have hks : k < (stsOf cnt last).length := by omega
  have hfl := free_len hF
  refine (turn_any hM hl h6 (by omega) hk hb ⟨by omega, hc.2⟩ (fun j hj => ?_) hBw).mono ?_
  · rw [taL_at _ hj]
    have := tal_bd (stsOf cnt last) j
    omega
  rintro e w' ⟨A', c', rfl, h3, h4, h5⟩
  refine ⟨A', c', rfl, ⟨turnL (stOf (cnt.getD k 0) (last.getD k false)) (stOf (cnt.getD k 0 + b) (last.getD k false)) L ((k : Int) + 1), ?_, ?_⟩, rfl, h4, ?_⟩
  · have hb1 := stOf_bd (cnt.getD k 0) (last.getD k false)
    have hb2 := stOf_bd (cnt.getD k 0 + b) (last.getD k false)
    have he := turnT_tal (sts := stsOf cnt last) hks (sb := (stOf (cnt.getD k 0) (last.getD k false)).toNat) (sn := (stOf (cnt.getD k 0 + b) (last.getD k false)).toNat) (by omega) (by omega) (by rw [sts_at hl hk]; omega)
    rw [he] at h3
    rw [sts_bump hl h1 h2, hkn]
    rw [show (((stOf (cnt.getD k 0 + b) (last.getD k false)).toNat : Nat) : Int) = stOf (cnt.getD k 0 + b) (last.getD k false) by omega] at h3
    exact h3
  · have := free_turn (now := stOf (cnt.getD k 0 + b) (last.getD k false)) hF h1 (by omega)
    rw [hkn, sts_at hl hk] at this
    rw [sts_bump hl h1 h2, hkn]
    exact this
  · rintro q (hq | hq | hq | hq | hq | hq | hq)
    · exact .inl (.inl hq)
    · exact .inl (.inr (.inl hq))
    · exact .inl (.inr (.inr (.inl hq)))
    · exact .inl (.inr (.inr (.inr (.inl hq))))
    · exact (h5 q hq).imp (fun h => .inr (.inr (.inr (.inr (.inl h))))) id
    · exact .inl (.inr (.inr (.inr (.inr (.inr (.inl hq))))))
    · exact .inl (.inr (.inr (.inr (.inr (.inr (.inr hq))))))
/-- What undoes an act. -/
theorem back_any (h : PoolC B w m refs cnt last az fl) (hl : last.length = cnt.length) (h6 : cnt.length ≤ 65536) {n b : Int} (h1 : 1 ≤ n) (h2 : n ≤ cnt.length) (hb : -1 ≤ b ∧ b ≤ 1)
    (hc : 0 ≤ cnt.getD (n - 1).toNat 0 ∧ cnt.getD (n - 1).toNat 0 ≤ 65536) (hBw : B ≤ w.heap.size) {k : Nat × Nat × Nat} (hk : ActAt w m.p (n, b) k) :
    Calls Try.prog 65 #[.pointer (some ⟨k.1, 0, none⟩), .pointer (some ⟨k.2.1, 0, none⟩), .pointer (some ⟨k.2.2, 0, none⟩)] w fun e w' => ∃ A' c', e = .returned (.tuple #[]) ∧
      PoolC B w' { m with fA := A', fc := c' } refs (bump cnt n (-b)) last az fl ∧ Moved m { m with fA := A', fc := c' } w w' := by
  have q1 := cell_of_row _ _ 0 _ _ _ hk.c1
  have q2 := cell_of_row _ _ 0 _ _ _ hk.c2
  have q3 := cell_of_row _ _ 0 _ _ _ hk.c3
  simp only [List.getElem?_toArray, List.getElem?_cons_zero] at q1 q2 q3
  have ht := turnC_any h hl h6 h1 h2 (b := -b) (by omega) hc hBw
  obtain ⟨k1, k2, k3⟩ := k
  clear hc h1 h2 hk
  go_enter Try.func65, Try.ntmps65
  go_wp2_with fail
  refine ht.mono ?_
  rintro e w' ⟨A', c', rfl, h3, h4⟩
  clear ht q1 q2 q3
  go_wp2
  go_end0
  exact ⟨A', c', rfl, h3, h4⟩
end
end Go.Proofs.Ytaalhicdeibodaa
