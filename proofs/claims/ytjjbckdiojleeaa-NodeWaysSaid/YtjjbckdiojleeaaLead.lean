/- Contracts of coppicelaw12.lead, found. No condition but that what comes in lies in memory. -/
import Derived.Test.YtjjbckdiojleeaaNfinds
import Derived.Test.YtjjbckdiojleeaaNlawb
namespace Go.Proofs.Ytjjbckdiojleeaa
set_option linter.unusedVariables false
open Go.RowKit Go.Proofs
theorem ItV.void (w : World) (ch sz : Int) : ItV w (.agg #[.slice none 0 0, .slice none 0 0, .int .i64 ch, .int .i64 sz]) ⟨[], [], ch, sz⟩ := ⟨none, 0, none, 0, rfl, ⟨Rd.nil _ _, Nat.zero_le _, Nat.le_refl _, by decide⟩, ⟨Rd.nil _ _, Nat.zero_le _, Nat.le_refl _, by decide⟩⟩
set_option maxRecDepth 100000 in
set_option maxHeartbeats 2000000 in
theorem lead_any {v : Value} {p : Pg} {A : Option Addr} {c n : Nat} {k : List UInt8} {w0 w : World} (hv0 : PgV w0 v p) (he0 : Ext w0 w) (hk : Sl w A c k) (hn : n = k.length) :
    Calls Try.prog 38 #[v, .slice A n c] w fun e w' => ∃ u, e = .returned (.tuple #[u, .bool (leadB p k).2]) ∧ ItV w0 u (leadB p k).1 ∧ Ext w w' := by
  subst hn
  have hv := hv0.ext he0
  obtain ⟨iA, ic, dA, dc, rfl, hi, hd⟩ := hv0.ex
  have hil := hi.len
  have hic := hi.le
  have HP := Lib.hid (heap_alloc2_old w (.cells #[.int .i64 p.kind, .int .i64 p.level, .slice iA p.items.length ic, .slice dA p.data.length dc, .int .i64 p.next] 26) (.cells #[.slice none 0 0, .slice none 0 0, .int .i64 0, .int .i64 0] 51))
  have HZ := Lib.hid (heap_alloc2_new w (.cells #[.int .i64 p.kind, .int .i64 p.level, .slice iA p.items.length ic, .slice dA p.data.length dc, .int .i64 p.next] 26) (.cells #[.slice none 0 0, .slice none 0 0, .int .i64 0, .int .i64 0] 51))
  have hE := (ext_alloc w (.cells #[.int .i64 p.kind, .int .i64 p.level, .slice iA p.items.length ic, .slice dA p.data.length dc, .int .i64 p.next] 26)).trans (ext_alloc _ (.cells #[.slice none 0 0, .slice none 0 0, .int .i64 0, .int .i64 0] 51))
  clear hd
  by_cases h2 : p.kind = 2
  · have c1 : (p.kind == 2) = true := by simpa using h2
    by_cases hlt : routI p.items k < p.items.length
    · obtain ⟨x, hx⟩ : ∃ x, p.items[routI p.items k]? = some x := ⟨_, List.getElem?_eq_getElem hlt⟩
      have HQ := Lib.hid (show leadB p k = (⟨[], [], x.ch, 0⟩, true) by unfold leadB; rw [if_pos h2, hx])
      obtain ⟨b, o, rfl, hcx⟩ := hi.rd (by omega)
      obtain ⟨_, _, _, _, _, _, x2, _, _, _⟩ := hcx _ x hx
      obtain ⟨m, hm⟩ : ∃ m, routI p.items k = m := ⟨_, rfl⟩
      rw [hm] at hlt x2
      have HM := Lib.hid hm
      have j1 : (m : Int) < p.items.length := by omega
      clear hm hx hcx h2
      go_enter Try.func38, Try.ntmps38
      go_wp2_with fail
      refine (nroute_any (k := k) (hv.ext hE) (hk.ext hE) rfl).mono ?_
      rintro e w1 ⟨rfl, hE1⟩
      rw [HM.out]
      replace HP := Lib.hid (hE1.blk HP.out)
      have hZ := hE1.blk HZ.out
      replace hE := hE.trans hE1
      replace x2 := (he0.trans hE).cell x2
      clear hE1 HZ
      have p0 := cell_of_row w1 w.heap.size 0 _ _ _ HP.out
      have p1 := cell_of_row w1 w.heap.size 1 _ _ _ HP.out
      have p2 := cell_of_row w1 w.heap.size 2 _ _ _ HP.out
      have p3 := cell_of_row w1 w.heap.size 3 _ _ _ HP.out
      have p4 := cell_of_row w1 w.heap.size 4 _ _ _ HP.out
      simp only [List.getElem?_toArray, List.getElem?_cons_zero, List.getElem?_cons_succ] at p0 p1 p2 p3 p4
      go_wp2_with (refine wpList_store_at 51 (.tmp 4) (.tmp 31) (w.heap.size + 1) _ rfl rfl 51 _ hZ ?_ rfl ?_ (fun w9 hb hg => ?_); (· kernel_rfl); (· simp [Value.oneCell']))
      refine bodyPost_ret (results_cell_tmp' rfl _ _ _ _ _ _ _ rfl hb Try.underlying51 rfl (by kernel_rfl)) rfl ⟨_, by rw [HQ.out]; rfl, ?_, ext_only hE hg (by omega)⟩
      rw [HQ.out]
      exact ItV.void _ _ _
    · have HQ := Lib.hid (show leadB p k = (It.zero, false) by unfold leadB; rw [if_pos h2, List.getElem?_eq_none (by omega)])
      obtain ⟨m, hm⟩ : ∃ m, routI p.items k = m := ⟨_, rfl⟩
      rw [hm] at hlt
      have HM := Lib.hid hm
      have j1 : (p.items.length : Int) ≤ (m : Int) := by omega
      have j2 : p.items.length ≤ m := by omega
      clear hm h2 hlt
      go_enter Try.func38, Try.ntmps38
      go_wp2_with fail
      refine (nroute_any (k := k) (hv.ext hE) (hk.ext hE) rfl).mono ?_
      rintro e w1 ⟨rfl, hE1⟩
      rw [HM.out]
      replace HP := Lib.hid (hE1.blk HP.out)
      have hZ := hE1.blk HZ.out
      replace hE := hE.trans hE1
      clear hE1 HZ
      have p0 := cell_of_row w1 w.heap.size 0 _ _ _ HP.out
      have p1 := cell_of_row w1 w.heap.size 1 _ _ _ HP.out
      have p2 := cell_of_row w1 w.heap.size 2 _ _ _ HP.out
      have p3 := cell_of_row w1 w.heap.size 3 _ _ _ HP.out
      have p4 := cell_of_row w1 w.heap.size 4 _ _ _ HP.out
      simp only [List.getElem?_toArray, List.getElem?_cons_zero, List.getElem?_cons_succ] at p0 p1 p2 p3 p4
      go_wp2_with (refine wpList_store_at 51 (.tmp 4) (.tmp 24) (w.heap.size + 1) _ rfl rfl 51 _ hZ ?_ rfl ?_ (fun w9 hb hg => ?_); (· kernel_rfl); (· simp [Value.oneCell']))
      refine bodyPost_ret (results_cell_tmp' rfl _ _ _ _ _ _ _ rfl hb Try.underlying51 rfl (by kernel_rfl)) rfl ⟨_, by rw [HQ.out]; rfl, ?_, ext_only hE hg (by omega)⟩
      rw [HQ.out]
      exact ItV.void _ _ _
  · have c1 : (p.kind == 2) = false := by simpa using h2
    obtain ⟨m, hm⟩ : ∃ m, srchI p.items k = m := ⟨_, rfl⟩
    have HM := Lib.hid hm
    cases hz : srchB p.items k
    · have HQ := Lib.hid (show leadB p k = (It.zero, false) by
        unfold leadB
        rw [if_neg h2]
        unfold srchB at hz
        split
        · rename_i x hx
          rw [hx] at hz
          simp only at hz
          rw [hz]
          rfl
        · rfl)
      have HZ1 := Lib.hid hz
      clear hz hm h2
      go_enter Try.func38, Try.ntmps38
      go_wp2_with fail
      refine (nsearch_any (k := k) (hv.ext hE) (hk.ext hE) rfl).mono ?_
      rintro e w1 ⟨rfl, hE1⟩
      rw [HM.out, HZ1.out]
      replace HP := Lib.hid (hE1.blk HP.out)
      have hZ := hE1.blk HZ.out
      replace hE := hE.trans hE1
      clear hE1 HZ
      have p0 := cell_of_row w1 w.heap.size 0 _ _ _ HP.out
      have p1 := cell_of_row w1 w.heap.size 1 _ _ _ HP.out
      have p2 := cell_of_row w1 w.heap.size 2 _ _ _ HP.out
      have p3 := cell_of_row w1 w.heap.size 3 _ _ _ HP.out
      have p4 := cell_of_row w1 w.heap.size 4 _ _ _ HP.out
      simp only [List.getElem?_toArray, List.getElem?_cons_zero, List.getElem?_cons_succ] at p0 p1 p2 p3 p4
      go_wp2_with (refine wpList_store_at 51 (.tmp 4) (.tmp 51) (w.heap.size + 1) _ rfl rfl 51 _ hZ ?_ rfl ?_ (fun w9 hb hg => ?_); (· kernel_rfl); (· simp [Value.oneCell']))
      refine bodyPost_ret (results_cell_tmp' rfl _ _ _ _ _ _ _ rfl hb Try.underlying51 rfl (by kernel_rfl)) rfl ⟨_, by rw [HQ.out]; rfl, ?_, ext_only hE hg (by omega)⟩
      rw [HQ.out]
      exact ItV.void _ _ _
    · obtain ⟨x, hx, hxe⟩ : ∃ x, p.items[srchI p.items k]? = some x ∧ eqB x.key k = true := by
        unfold srchB at hz
        split at hz
        · rename_i x hx
          exact ⟨x, hx, hz⟩
        · cases hz
      have HQ := Lib.hid (show leadB p k = (x, true) by
        unfold leadB
        rw [if_neg h2, hx]
        simp only
        rw [if_pos hxe])
      have hlt := (List.getElem?_eq_some_iff.1 hx).1
      obtain ⟨b, o, rfl, hcx⟩ := hi.rd (by omega)
      obtain ⟨kA, kc, vA, vc, x0, x1, x2, x3, xk, xv⟩ := hcx _ x hx
      rw [hm] at hlt x0 x1 x2 x3
      have HZ1 := Lib.hid hz
      have j1 : (m : Int) < p.items.length := by omega
      clear hz hm hx hxe hcx h2
      go_enter Try.func38, Try.ntmps38
      go_wp2_with fail
      refine (nsearch_any (k := k) (hv.ext hE) (hk.ext hE) rfl).mono ?_
      rintro e w1 ⟨rfl, hE1⟩
      rw [HM.out, HZ1.out]
      replace HP := Lib.hid (hE1.blk HP.out)
      have hZ := hE1.blk HZ.out
      replace hE := hE.trans hE1
      replace x0 := (he0.trans hE).cell x0
      replace x1 := (he0.trans hE).cell x1
      replace x2 := (he0.trans hE).cell x2
      replace x3 := (he0.trans hE).cell x3
      clear hE1 HZ
      have p0 := cell_of_row w1 w.heap.size 0 _ _ _ HP.out
      have p1 := cell_of_row w1 w.heap.size 1 _ _ _ HP.out
      have p2 := cell_of_row w1 w.heap.size 2 _ _ _ HP.out
      have p3 := cell_of_row w1 w.heap.size 3 _ _ _ HP.out
      have p4 := cell_of_row w1 w.heap.size 4 _ _ _ HP.out
      simp only [List.getElem?_toArray, List.getElem?_cons_zero, List.getElem?_cons_succ] at p0 p1 p2 p3 p4
      go_wp2_with (refine wpList_store_at 51 (.tmp 4) (.tmp 56) (w.heap.size + 1) _ rfl rfl 51 _ hZ ?_ rfl ?_ (fun w9 hb hg => ?_); (· kernel_rfl); (· simp [Value.oneCell']))
      refine bodyPost_ret (results_cell_tmp' rfl _ _ _ _ _ _ _ rfl hb Try.underlying51 rfl (by kernel_rfl)) rfl ⟨_, by rw [HQ.out]; rfl, ?_, ext_only hE hg (by omega)⟩
      rw [HQ.out]
      exact ⟨kA, kc, vA, vc, rfl, xk, xv⟩
set_option maxRecDepth 100000 in
set_option maxHeartbeats 2000000 in
theorem found_any {v u : Value} {p q : Pg} {A B : Option Addr} {c n d m : Nat} {sep k : List UInt8} {w : World} (hv : PgV w v p) (hu : PgV w u q) (hs : Sl w A c sep) (hn : n = sep.length) (hk : Sl w B d k) (hm : m = k.length) :
    Calls Try.prog 37 #[v, u, .slice A n c, .slice B m d] w fun e w' => ∃ u, e = .returned (.tuple #[u, .bool (foundB p q sep k).2]) ∧ ItV w' u (foundB p q sep k).1 ∧ Ext w w' := by
  subst hn hm
  obtain ⟨iA, ic, dA, dc, rfl, hi, hd⟩ := hv.ex
  obtain ⟨iA2, ic2, dA2, dc2, rfl, hj, hcd⟩ := hu.ex
  have hE := (((ext_alloc w (.cells #[.int .i64 p.kind, .int .i64 p.level, .slice iA p.items.length ic, .slice dA p.data.length dc, .int .i64 p.next] 26)).trans (ext_alloc _ (.cells #[.int .i64 q.kind, .int .i64 q.level, .slice iA2 q.items.length ic2, .slice dA2 q.data.length dc2, .int .i64 q.next] 26))).trans (ext_alloc _ (.cells #[.slice none 0 0, .slice none 0 0, .int .i64 0, .int .i64 0] 51))).trans (ext_alloc _ (.cells #[.int .i64 q.kind, .int .i64 q.level, .slice iA2 q.items.length ic2, .slice dA2 q.data.length dc2, .int .i64 q.next] 26))
  have HP := Lib.hid ((ext_alloc _ (.cells #[.int .i64 q.kind, .int .i64 q.level, .slice iA2 q.items.length ic2, .slice dA2 q.data.length dc2, .int .i64 q.next] 26)).blk ((ext_alloc _ (.cells #[.slice none 0 0, .slice none 0 0, .int .i64 0, .int .i64 0] 51)).blk (heap_alloc2_old w (.cells #[.int .i64 p.kind, .int .i64 p.level, .slice iA p.items.length ic, .slice dA p.data.length dc, .int .i64 p.next] 26) (.cells #[.int .i64 q.kind, .int .i64 q.level, .slice iA2 q.items.length ic2, .slice dA2 q.data.length dc2, .int .i64 q.next] 26))))
  have HZ := Lib.hid ((ext_alloc _ (.cells #[.int .i64 q.kind, .int .i64 q.level, .slice iA2 q.items.length ic2, .slice dA2 q.data.length dc2, .int .i64 q.next] 26)).blk (heap_alloc_at ((w.alloc (.cells #[.int .i64 p.kind, .int .i64 p.level, .slice iA p.items.length ic, .slice dA p.data.length dc, .int .i64 p.next] 26)).alloc (.cells #[.int .i64 q.kind, .int .i64 q.level, .slice iA2 q.items.length ic2, .slice dA2 q.data.length dc2, .int .i64 q.next] 26)) (.cells #[.slice none 0 0, .slice none 0 0, .int .i64 0, .int .i64 0] 51) (w.heap.size + 1 + 1) (by simp)))
  have HR := Lib.hid (heap_alloc_at (((w.alloc (.cells #[.int .i64 p.kind, .int .i64 p.level, .slice iA p.items.length ic, .slice dA p.data.length dc, .int .i64 p.next] 26)).alloc (.cells #[.int .i64 q.kind, .int .i64 q.level, .slice iA2 q.items.length ic2, .slice dA2 q.data.length dc2, .int .i64 q.next] 26)).alloc (.cells #[.slice none 0 0, .slice none 0 0, .int .i64 0, .int .i64 0] 51)) (.cells #[.int .i64 q.kind, .int .i64 q.level, .slice iA2 q.items.length ic2, .slice dA2 q.data.length dc2, .int .i64 q.next] 26) (w.heap.size + 1 + 1 + 1) (by simp))
  obtain ⟨z, hz⟩ : ∃ z, cmpB k sep = z := ⟨_, rfl⟩
  have HC := Lib.hid hz
  clear hi hd hj hcd hz
  go_enter Try.func37, Try.ntmps37
  go_wp2_with fail
  refine (compare_any (hk.ext hE) (hs.ext hE)).mono ?_
  rintro e w1 ⟨rfl, hE1⟩
  rw [HC.out]
  replace HP := Lib.hid (hE1.blk HP.out)
  replace HZ := Lib.hid (hE1.blk HZ.out)
  replace HR := Lib.hid (hE1.blk HR.out)
  replace hE := hE.trans hE1
  clear hE1
  by_cases hlt : z < 0
  · have HQ := Lib.hid (show foundB p q sep k = leadB p k by unfold foundB; rw [if_pos (by rw [HC.out]; exact hlt)])
    have hR := HR.out
    have p0 := cell_of_row w1 w.heap.size 0 _ _ _ HP.out
    have p1 := cell_of_row w1 w.heap.size 1 _ _ _ HP.out
    have p2 := cell_of_row w1 w.heap.size 2 _ _ _ HP.out
    have p3 := cell_of_row w1 w.heap.size 3 _ _ _ HP.out
    have p4 := cell_of_row w1 w.heap.size 4 _ _ _ HP.out
    simp only [List.getElem?_toArray, List.getElem?_cons_zero, List.getElem?_cons_succ] at p0 p1 p2 p3 p4
    go_wp2_with (refine wpList_store_at 26 (.tmp 10) (.tmp 16) (w.heap.size + 1 + 1 + 1) _ rfl rfl 26 _ hR ?_ rfl ?_ (fun w2 hb hg => ?_); (· kernel_rfl); (· simp [Value.oneCell']); have q0 := cell_of_row w2 (w.heap.size + 1 + 1 + 1) 0 _ _ _ hb; have q1 := cell_of_row w2 (w.heap.size + 1 + 1 + 1) 1 _ _ _ hb; have q2 := cell_of_row w2 (w.heap.size + 1 + 1 + 1) 2 _ _ _ hb; have q3 := cell_of_row w2 (w.heap.size + 1 + 1 + 1) 3 _ _ _ hb; have q4 := cell_of_row w2 (w.heap.size + 1 + 1 + 1) 4 _ _ _ hb; simp only [List.getElem?_toArray, List.getElem?_cons_zero, List.getElem?_cons_succ] at q0 q1 q2 q3 q4)
    clear p0 p1 p2 p3 p4 hR
    have HZ2 := blk_other HZ.out hg (by omega)
    have hE2 := ext_only hE hg (by omega)
    have HB := Lib.hid hb
    clear hE hg hb HP HZ HR
    clear q0 q1 q2 q3 q4 HB
    refine (lead_any hv hE2 (hk.ext hE2) rfl).mono ?_
    rintro e w3 ⟨u, rfl, hU, hE3⟩
    obtain ⟨kA, kc, vA, vc, rfl, sk, sv⟩ := hU.ex
    have hZ := hE3.blk HZ2
    replace hE := hE2.trans hE3
    clear hE2 hE3 HZ2 hU
    obtain ⟨lk, hlk⟩ : ∃ l, leadB p k = l := ⟨_, rfl⟩
    rw [hlk] at HQ sk sv ⊢
    clear hlk
    go_wp2_with (refine wpList_store_at 51 (.tmp 8) (.tmp 20) (w.heap.size + 1 + 1) _ rfl rfl 51 _ hZ ?_ rfl ?_ (fun w9 hb hg => ?_); (· kernel_rfl); (· simp [Value.oneCell']))
    have hE' := ext_only hE hg (by omega)
    refine bodyPost_ret (results_cell_tmp' rfl _ _ _ _ _ _ _ rfl hb Try.underlying51 rfl (by kernel_rfl)) rfl ⟨_, by rw [HQ.out]; rfl, ?_, hE'⟩
    rw [HQ.out]
    exact ⟨kA, kc, vA, vc, rfl, sk.ext hE', sv.ext hE'⟩
  · have HQ := Lib.hid (show foundB p q sep k = leadB q k by unfold foundB; rw [if_neg (by rw [HC.out]; exact hlt)])
    have hlt' : 0 ≤ z := by omega
    clear hlt
    have q0 := cell_of_row w1 (w.heap.size + 1 + 1 + 1) 0 _ _ _ HR.out
    have q1 := cell_of_row w1 (w.heap.size + 1 + 1 + 1) 1 _ _ _ HR.out
    have q2 := cell_of_row w1 (w.heap.size + 1 + 1 + 1) 2 _ _ _ HR.out
    have q3 := cell_of_row w1 (w.heap.size + 1 + 1 + 1) 3 _ _ _ HR.out
    have q4 := cell_of_row w1 (w.heap.size + 1 + 1 + 1) 4 _ _ _ HR.out
    simp only [List.getElem?_toArray, List.getElem?_cons_zero, List.getElem?_cons_succ] at q0 q1 q2 q3 q4
    go_wp2_with fail
    clear q0 q1 q2 q3 q4 HR HP
    refine (lead_any hu hE (hk.ext hE) rfl).mono ?_
    rintro e w3 ⟨u, rfl, hU, hE3⟩
    obtain ⟨kA, kc, vA, vc, rfl, sk, sv⟩ := hU.ex
    have hZ := hE3.blk HZ.out
    replace hE := hE.trans hE3
    clear hE3 hU HZ
    obtain ⟨lk, hlk⟩ : ∃ l, leadB q k = l := ⟨_, rfl⟩
    rw [hlk] at HQ sk sv ⊢
    clear hlk
    go_wp2_with (refine wpList_store_at 51 (.tmp 8) (.tmp 20) (w.heap.size + 1 + 1) _ rfl rfl 51 _ hZ ?_ rfl ?_ (fun w9 hb hg => ?_); (· kernel_rfl); (· simp [Value.oneCell']))
    have hE' := ext_only hE hg (by omega)
    refine bodyPost_ret (results_cell_tmp' rfl _ _ _ _ _ _ _ rfl hb Try.underlying51 rfl (by kernel_rfl)) rfl ⟨_, by rw [HQ.out]; rfl, ?_, hE'⟩
    rw [HQ.out]
    exact ⟨kA, kc, vA, vc, rfl, sk.ext hE', sv.ext hE'⟩
end Go.Proofs.Ytjjbckdiojleeaa
