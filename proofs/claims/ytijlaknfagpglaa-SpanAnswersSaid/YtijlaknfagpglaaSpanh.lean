/- The walks of Cover over two ranges in order. Conditions: the lists lie in memory as slices; the second range begins not below the first. -/
import Derived.Test.YtijlaknfagpglaaSpanc
import Derived.Test.YtijlaknfagpglaaMildg
namespace Go.Proofs.Ytijlaknfagpglaa
open Go.RowKit Go.Proofs
theorem cov1_any {lA hA mA jA : Option Addr} {lc hc mc jc : Nat} {lo hi mo ji : List UInt8} {op oq : Bool} {w : World} (hlo : Sl w lA lc lo) (hmo : Sl w mA mc mo) :
    Calls Try.prog 54 #[.agg #[.slice lA lo.length lc, .slice hA hi.length hc, .bool op], .agg #[.slice mA mo.length mc, .slice jA ji.length jc, .bool oq]] w fun e w' => e = .returned (.int .i64 (cmpB lo mo)) ∧ Ext w w' := by
  have hE0 : Ext w ((w.alloc (.cells #[.slice lA lo.length lc, .slice hA hi.length hc, .bool op] 32 (0, 0))).alloc (.cells #[.slice mA mo.length mc, .slice jA ji.length jc, .bool oq] 32 (0, 0))) := (ext_alloc _ _).trans (ext_alloc _ _)
  go_enter Try.func54, Try.ntmps54
  go_wp2_with fail
  refine (bcompare_any (hlo.ext hE0) (hmo.ext hE0)).mono ?_
  rintro e w1 ⟨rfl, hE⟩
  go_wp2
  go_ret
  exact ⟨rfl, hE0.trans hE⟩
/-- Two ranges lie one behind the other. -/
structure Two (w : World) (g o : Nat) (lA : Option Addr) (ln lc : Nat) (hA : Option Addr) (hn hc : Nat) (op : Bool) : Prop where
  c0 : w.cell? ⟨g, o, none⟩ = some (.slice lA ln lc)
  c1 : w.cell? ⟨g, o + 1, none⟩ = some (.slice hA hn hc)
  c2 : w.cell? ⟨g, o + 2, none⟩ = some (.bool op)
theorem Two.ext {w w' : World} {g o : Nat} {lA : Option Addr} {ln lc : Nat} {hA : Option Addr} {hn hc : Nat} {op : Bool} (h : Two w g o lA ln lc hA hn hc op) (he : Ext w w') : Two w' g o lA ln lc hA hn hc op :=
  ⟨he.cell h.c0, he.cell h.c1, he.cell h.c2⟩
set_option maxHeartbeats 1000000 in
theorem ins2_any {lA hA mA jA : Option Addr} {lc hc mc jc g cap : Nat} {lo hi mo ji : List UInt8} {op oq : Bool} {w : World} (hlo : Sl w lA lc lo) (hmo : Sl w mA mc mo)
    (h1 : Two w g 0 lA lo.length lc hA hi.length hc op) (h2 : Two w g 3 mA mo.length mc jA ji.length jc oq) (hle : 0 ≤ cmpB mo lo) :
    Calls Try.prog 75 #[.slice (some ⟨g, 0, none⟩) 2 cap, .int .i64 0, .int .i64 2, .func (.func 54) #[] #[]] w fun e w' => e = .returned (.tuple #[]) ∧ Ext w w' := by
  go_enter Try.func75, Try.ntmps75
  go_wp2
  go_loopw [8] (fun i wr => (i = .int .i64 1 ∨ i = .int .i64 2) ∧ Ext w wr) (fun i _ => 2 - (intOf i).toNat)
  case atStart => exact ⟨.inl rfl, Below.refl _ _⟩
  case round =>
    obtain ⟨rfl | rfl, hE⟩ := hrel
    · go_wp2
      go_loopw [9] (fun j wq => j = .int .i64 1 ∧ Ext w wq) (fun j _ => 0)
      case atStart => exact ⟨rfl, hE⟩
      case round =>
        obtain ⟨rfl, hE2⟩ := hrel
        have k1 := h1.ext hE2
        have k2 := h2.ext hE2
        have a0 := k1.c0
        have a1 := k1.c1
        have a2 := k1.c2
        have b0 := k2.c0
        have b1 := k2.c1
        have b2 := k2.c2
        simp at a0 a1 a2 b0 b1 b2
        go_wp2
        refine wp_region_mild 16 (fun i => match i with
          | 14 => some fun _ v w' => v = .int .i64 (cmpB mo lo)
          | _ => none) (by kernel_rfl) (by kernel_rfl) (fun W N hW hN => ?_)
        have e0 : ∀ w', Ext W w' → w'.cell? ⟨g, 0, none⟩ = some (.slice lA lo.length lc) := fun w' h => (hW.trans h).cell a0
        have e1 : ∀ w', Ext W w' → w'.cell? ⟨g, 1, none⟩ = some (.slice hA hi.length hc) := fun w' h => (hW.trans h).cell a1
        have e2 : ∀ w', Ext W w' → w'.cell? ⟨g, 2, none⟩ = some (.bool op) := fun w' h => (hW.trans h).cell a2
        have e3 : ∀ w', Ext W w' → w'.cell? ⟨g, 3, none⟩ = some (.slice mA mo.length mc) := fun w' h => (hW.trans h).cell b0
        have e4 : ∀ w', Ext W w' → w'.cell? ⟨g, 4, none⟩ = some (.slice jA ji.length jc) := fun w' h => (hW.trans h).cell b1
        have e5 : ∀ w', Ext W w' → w'.cell? ⟨g, 5, none⟩ = some (.bool oq) := fun w' h => (hW.trans h).cell b2
        simp only [List.take_succ_cons, List.take_zero]
        repeat (first | (apply wpM_one; (case hg => rfl); (case hsp => rfl); (case hv => (intro w' hw'; go_simp; exact rfl)); simp only [Act.put, List.setIfInBounds_toArray, List.set_cons_succ, List.set_cons_zero]; try simp only [wrap_zero]) | (apply wpM_oneG; (case hw => rfl); (case hsp => rfl); (case hv => (intro w' hw'; go_simp; exact rfl)); simp only [Act.put, List.setIfInBounds_toArray, List.set_cons_succ, List.set_cons_zero]; try simp only [wrap_zero]) | (apply wpM_pass; (case hw => rfl); simp only [Act.put, List.setIfInBounds_toArray, List.set_cons_succ, List.set_cons_zero]; try simp only [wrap_zero]))
        refine wpM_newG _ rfl rfl (fun V v => Stable.pure) (fun V V' h => rfl) (fun w' hw' hK => ?_) (fun v hv => ?_)
        · unfold mildAt; go_simp; rw [mildUpon_enter]
          refine ⟨Below.refl _ _, (cov1_any (hmo.ext ((hE2.trans hW).trans hw')) (hlo.ext ((hE2.trans hW).trans hw'))).mono ?_⟩
          rintro e w2 ⟨rfl, hE2⟩
          exact ⟨_, rfl, hE2, rfl⟩
        obtain ⟨_, _, _, rfl⟩ := hv
        simp only [Act.put, List.setIfInBounds_toArray, List.set_cons_succ, List.set_cons_zero]
        repeat (first | (apply wpM_one; (case hg => rfl); (case hsp => rfl); (case hv => (intro w' hw'; go_simp; exact rfl)); simp only [Act.put, List.setIfInBounds_toArray, List.set_cons_succ, List.set_cons_zero]; try simp only [wrap_zero]) | (apply wpM_oneG; (case hw => rfl); (case hsp => rfl); (case hv => (intro w' hw'; go_simp; exact rfl)); simp only [Act.put, List.setIfInBounds_toArray, List.set_cons_succ, List.set_cons_zero]; try simp only [wrap_zero]) | (apply wpM_pass; (case hw => rfl); simp only [Act.put, List.setIfInBounds_toArray, List.set_cons_succ, List.set_cons_zero]; try simp only [wrap_zero]))
        apply wpM_nil
        apply hN
        intro w' hE' hK
        clear hK hN
        go_wp2
        go_roundw
        case rel => exact ⟨.inr (by go_num), (hE2.trans hW).trans hE'⟩
        case measure => simp [intOf]
    · go_wp2
      exact bodyPost_end (by simp [results, Try.results75]) rfl ⟨rfl, hE⟩
theorem stab2_any {lA hA mA jA : Option Addr} {lc hc mc jc g cap : Nat} {lo hi mo ji : List UInt8} {op oq : Bool} {w : World} (hlo : Sl w lA lc lo) (hmo : Sl w mA mc mo)
    (h1 : Two w g 0 lA lo.length lc hA hi.length hc op) (h2 : Two w g 3 mA mo.length mc jA ji.length jc oq) (hle : 0 ≤ cmpB mo lo) :
    Calls Try.prog 70 #[.slice (some ⟨g, 0, none⟩) 2 cap, .int .i64 2, .func (.func 54) #[] #[]] w fun e w' => e = .returned (.tuple #[]) ∧ Ext w w' := by
  go_enter Try.func70, Try.ntmps70
  go_wp2
  go_loopw [7, 8] (fun a b wr => a = .int .i64 0 ∧ b = .int .i64 20 ∧ Ext w wr) (fun _ _ _ => 0)
  case atStart => exact ⟨rfl, rfl, Below.refl _ _⟩
  case round =>
    obtain ⟨rfl, rfl, hE⟩ := hrel
    go_wp2_with fail
    refine (ins2_any (hlo.ext hE) (hmo.ext hE) (h1.ext hE) (h2.ext hE) hle).mono ?_
    rintro e w1 ⟨rfl, hE1⟩
    go_wp2
    go_loopw [6] (fun a wr => a = .int .i64 20 ∧ Ext w wr) (fun _ _ => 0)
    case atStart => exact ⟨rfl, hE.trans hE1⟩
    case round =>
      obtain ⟨rfl, hE2⟩ := hrel
      go_wp2
      exact bodyPost_end (by simp [results, Try.results70]) rfl ⟨rfl, hE2⟩
theorem stable2_any {lA hA mA jA : Option Addr} {lc hc mc jc g cap : Nat} {lo hi mo ji : List UInt8} {op oq : Bool} {w : World} (hlo : Sl w lA lc lo) (hmo : Sl w mA mc mo)
    (h1 : Two w g 0 lA lo.length lc hA hi.length hc op) (h2 : Two w g 3 mA mo.length mc jA ji.length jc oq) (hle : 0 ≤ cmpB mo lo) :
    Calls Try.prog 53 #[.slice (some ⟨g, 0, none⟩) 2 cap, .func (.func 54) #[] #[]] w fun e w' => e = .returned (.tuple #[]) ∧ Ext w w' := by
  go_enter Try.func53, Try.ntmps53
  go_wp2_with fail
  refine (stab2_any hlo hmo h1 h2 hle).mono ?_
  rintro e w1 ⟨rfl, hE1⟩
  go_wp2
  exact bodyPost_end (by simp [results, Try.results53]) rfl ⟨rfl, hE1⟩
end Go.Proofs.Ytijlaknfagpglaa
