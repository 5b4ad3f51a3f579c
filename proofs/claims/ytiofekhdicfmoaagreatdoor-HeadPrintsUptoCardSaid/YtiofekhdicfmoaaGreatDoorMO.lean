import Derived.Test.YtiofekhdicfmoaaGreatDoorMN
import Derived.Test.YtiofekhdicfmoaaGreatDoorMK
import Derived.KernelRfl
import Derived.Test.YtiofekhdicfmoaaGreatDoorMI
import Derived.Lib.ItoaLen
set_option linter.all false
namespace Go.Proofs.YtiofekhdicfmoaaGreatDoor
open Go Go.Hr
attribute [local irreducible] Go.wpList Go.Code.wp Go.Calls Go.Hr.CallsA Go.wpAnyH Go.callFunc Go.callMethod Go.Instr.typeAssert Go.Sem.run
set_option maxHeartbeats 4000000
set_option linter.all false

set_option maxRecDepth 8000
open Go.RowKit
section
variable {P : Program} {ops rest : List Oper} {Q : Exit → Act → World → Prop} {n : Nat} {l : List (Nat × Value)} {f : Nat → Value} {w w' w0 : World}
  {d i : Nat} {ty t u e : TypeId} {pos : String} {aft : Array Edge} {D : List Nat} {R : List Ro} {H H' : List Own} {x y : Operand} {ad : Addr} {vs : List Value}
theorem p_toTextRo {s' : TypeId} {b : List UInt8} {k m cp cc : Nat} [hs : Sli P s' e] [ht : Str P t] [he : Itg P e .u8] (hH : Holds w0 D w R H) (hx : ev n l f x = .slice (if cp = k then some ad else (some ad).map (·.add (k * 1))) m cc)
    (hr : (⟨some ad, 1, b.length, bytesV b, none⟩ : Ro) ∈ R) (hne : cp ≠ k) (hm : k + m ≤ b.length)
    (kk : wpList P ops.toArray Q rest (A n ((d, .string ⟨((b.drop k).take m).toArray⟩) :: l) f) w) :
    wpList P ops.toArray Q (⟨some d, .convert s' t x, ty, pos, aft, none⟩ :: rest) (A n l f) w := by
  rw [if_neg hne] at hx
  refine r_toText hs.h ht.h he.h hx hH ?_ kk
  have := Reads1.roSub (w := w) (Hr := H) (k := k) (m := m) hr hm
  have e : ((bytesV b).drop (k * 1)).take (m * 1) = bytesV ((b.drop k).take m) := by rw [Nat.mul_one, Nat.mul_one]; unfold bytesV; rw [List.map_take, List.map_drop]
  rw [e] at this
  exact this
end
theorem holds_take {w0 w : World} {D : List Nat} {R : List Ro} {H H1 H' : List Own} (hH : Holds w0 D w R H) (hp : Take H H1 H') : Holds w0 D w R H1 := (hH.perm hp.perm).of_sub
structure RdQ where
  i : Nat
  fr : Nat
  n : Nat
  h : Hp.HeadP
  fa : Option Addr
  fc : Nat
theorem readR_cons (most : Nat) (h : Hp.HeadP) (lines i : Nat) (cur : List UInt8) (c : UInt8) (r : List UInt8) : Hp.readR most h lines i cur (c :: r) =
    if (c == 10) != Hp.afterP cur then ⟨{}, i + 1, false, 81⟩ else
    if i + 1 > most ∨ (c ≠ 10 ∧ c ≠ 13 ∧ cur.length + 1 > 8192) then ⟨{}, i + 1, false, 85⟩ else
    if c ≠ 10 then Hp.readR most h lines (i + 1) (cur ++ [c]) r else
    if (Hp.lineR h (lines + 1) cur.dropLast).2.2 ≠ 0 then ⟨{}, i + 1, false, (Hp.lineR h (lines + 1) cur.dropLast).2.2⟩ else
    if (Hp.lineR h (lines + 1) cur.dropLast).2.1 then ⟨(Hp.lineR h (lines + 1) cur.dropLast).1, i + 1, true, 0⟩ else
    Hp.readR most (Hp.lineR h (lines + 1) cur.dropLast).1 (lines + 1) (i + 1) [] r := by rfl
theorem readR_i (most : Nat) (h : Hp.HeadP) (lines i : Nat) (cur : List UInt8) (c : UInt8) (r : List UInt8) : Hp.readR most h lines i cur (c :: r) =
    if (decide ((c.toNat : Int) = 10)) != Hp.afterP cur then ⟨{}, i + 1, false, 81⟩ else
    if i + 1 > most ∨ ((c.toNat : Int) ≠ 10 ∧ (c.toNat : Int) ≠ 13 ∧ cur.length + 1 > 8192) then ⟨{}, i + 1, false, 85⟩ else
    if (c.toNat : Int) ≠ 10 then Hp.readR most h lines (i + 1) (cur ++ [c]) r else
    if (Hp.lineR h (lines + 1) cur.dropLast).2.2 ≠ 0 then ⟨{}, i + 1, false, (Hp.lineR h (lines + 1) cur.dropLast).2.2⟩ else
    if (Hp.lineR h (lines + 1) cur.dropLast).2.1 then ⟨(Hp.lineR h (lines + 1) cur.dropLast).1, i + 1, true, 0⟩ else
    Hp.readR most (Hp.lineR h (lines + 1) cur.dropLast).1 (lines + 1) (i + 1) [] r := by
  have e10 : (c = 10) ↔ ((c.toNat : Int) = 10) := by rw [← UInt8.toNat_inj]; simp; omega
  have e13 : (c = 13) ↔ ((c.toNat : Int) = 13) := by rw [← UInt8.toNat_inj]; simp; omega
  have eb : (c == 10) = decide ((c.toNat : Int) = 10) := by rw [Bool.eq_iff_iff]; simp [e10]
  rw [readR_cons, eb]
  simp only [ne_eq, e10, e13]
theorem lineR_fields (h : Hp.HeadP) (n : Nat) (s : List UInt8) (hf : h.fields.length ≤ 100) (he : (Hp.lineR h n s).2.2 = 0) : (Hp.lineR h n s).1.fields.length ≤ 100 := by
  unfold Hp.lineR at he ⊢
  split
  · split
    · exact hf
    · rw [firstR_fields]; simp
  · rename_i hb
    rw [if_neg hb] at he
    split
    · exact hf
    · rename_i hs
      rw [if_neg hs] at he
      dsimp only at he ⊢
      rw [List.length_append, List.length_singleton]
      split at he
      · cases he
      · omega
/-- the line so far, at byte i -/
def curL (b : List UInt8) (fr i : Nat) : List UInt8 := (b.take i).drop fr
theorem curL_len (b : List UInt8) {fr i : Nat} (hi : i ≤ b.length) : (curL b fr i).length = i - fr := by simp [curL]; omega
theorem curL_succ (b : List UInt8) {fr i : Nat} (h1 : fr ≤ i) (hi : i < b.length) : curL b fr (i + 1) = curL b fr i ++ [b.getD i 0] := by
  unfold curL
  rw [List.take_succ_eq_append_getElem hi, List.drop_append_of_le_length (by simp; omega)]
  simp [List.getD, List.getElem?_eq_getElem hi]
theorem curL_succ' (b : List UInt8) {fr i : Nat} (h1 : fr ≤ i) (hi : i < b.length) : curL b fr (i + 1) = curL b fr i ++ [b.getD (((i : Int)).toNat * 1) 0] := by
  have e1 : ((i : Int)).toNat * 1 = i := by omega
  rw [e1, curL_succ b h1 hi]
theorem curL_nil (b : List UInt8) (i : Nat) : curL b i i = [] := by simp [curL]
theorem curL_after (b : List UInt8) {fr i : Nat} (h1 : fr ≤ i) (hi : i ≤ b.length) : Hp.afterP (curL b fr i) = (decide ((fr : Int) < (i : Int)) && decide (((b.getD (((i : Int) - 1).toNat * 1) 0).toNat : Int) = 13)) := by
  by_cases h : fr < i
  · obtain ⟨j, rfl⟩ : ∃ j, i = j + 1 := ⟨i - 1, by omega⟩
    rw [curL_succ b (by omega) (by omega)]
    have e1 : ((((j + 1 : Nat) : Int)) - 1).toNat * 1 = j := by omega
    have e2 : decide ((fr : Int) < ((j + 1 : Nat) : Int)) = true := by rw [decide_eq_true_eq]; omega
    rw [e1, e2, Bool.true_and]
    unfold Hp.afterP
    rw [List.getLast?_concat, Bool.eq_iff_iff]
    generalize b.getD j 0 = c
    simp [← UInt8.toNat_inj]; omega
  · have : fr = i := by omega
    subst this
    rw [curL_nil]; simp [Hp.afterP]
theorem curL_line (b : List UInt8) {fr i : Nat} (h1 : fr < i) (hi : i ≤ b.length) : (curL b fr i).dropLast = (b.drop fr).take (i - 1 - fr) := by
  obtain ⟨j, rfl⟩ : ∃ j, i = j + 1 := ⟨i - 1, by omega⟩
  rw [curL_succ b (by omega) (by omega), List.dropLast_concat]
  unfold curL
  rw [List.drop_take]; congr 1
def ReadT (x : Hp.ResR) (v : Value) (H' : List Own) : Prop :=
  ∃ ga gc, v = .tuple (List.toArray [headV x.head (slF x.head ga gc), .int .i64 (x.n : Int), .bool x.whole, .int .i64 (x.e : Int)]) ∧ H' = [fldsO x.head (slF x.head ga gc)]
theorem c28a (rq : Bool) (most : Nat) (ad : Addr) (bc : Nat) (b : List UInt8) (hb : b.length ≤ 1099511627776) (hbc : b.length ≤ bc) (hmo : most ≤ 1099511627776) :
    CallsA Tryz.prog 28 (List.toArray [.bool rq, .int .i64 (most : Int), .slice (some ad) b.length bc]) [⟨some ad, 1, b.length, bytesV b, none⟩] [] (ReadT (Hp.readR most { request := rq } 0 0 [] b)) := by
  unfold ReadT
  generalize hR0 : Hp.readR most { request := rq } 0 0 [] b = R0
  refine callsA_of (args := [_, _, _]) Tryz.func28 rfl Tryz.ntmps28 (by simp) ?_
  intro w0 hH
  repeat' (first | refine stp ?_ | (refine g_guard ?_; (first | refine r_guardD rfl rfl rfl (fun hg hp => ?_) (fun hg hp => ?_) | refine r_guard rfl rfl rfl (fun hg => ?_) (fun hg => ?_))) | (refine g_load ?_; (first | (refine p_loadRF hH rfl rfl (by omega) tO ?_) | (refine p_loadSF hH rfl rfl tO ?_) | (refine p_loadSB hH rfl rfl tO ?_) | (refine p_loadRB hH rfl rfl (by omega) tO ?_) | (refine p_loadS hH rfl tW ?_))) | (refine g_call ?_; (first | (refine p_appendL hH rfl rfl (Reads1.own (v := .nilIface) (Sel.mem tSel)) rfl rfl rfl tO rfl (fun vb vc w hH => ?_)))) | refine n_buildSlice1 hH tE rfl rfl rfl rfl tN (fun g w hg hH => ?_) | (refine r_toInt Tryz.underlying183 Tryz.underlying3 rfl (wrap_small (by omega)) ?_) | (refine p_toTextS hH rfl rfl tO rfl ?_) | (refine p_neF rfl rfl ?_) | (refine p_eqF rfl rfl ?_) | (refine g_store ?_; (first | refine n_store hH rfl tE rfl rfl tN (fun w hH => ?_) | refine n_storeA hH rfl rfl rfl rfl rfl tN (fun w hH => ?_))) | refine n_alloc hH tW (fun g w hg hH => ?_) | (refine g_box ?_; (first | refine p_boxA hH rfl (fun g w hg hH => ?_) | refine p_boxI hH rfl (fun g w hg hH => ?_) | refine p_boxL hH rfl (fun g w hg hH => ?_))) | (refine g_cond ?_; (first | refine c_condD rfl (fun hc hp => ?_) (fun hc hp => ?_) | refine c_cond rfl (fun hc => ?_) (fun hc => ?_))) | refine d_start (P := Tryz.prog) hH (fun hH => ?_) | (refine g_any ?_; (first | (apply d_done; exact rfl; kernel_rfl) | (apply d_next; exact rfl; exact rfl; exact rfl; kernel_rfl; (first | (simp only [falses, setB]; exact rfl) | exact rfl); exact hH.sub tSub; (intro w hH; (repeat (first | refine stpO ?_ | (refine g_load ?_; (first | (refine p_loadRF hH rfl rfl (by omega) tO ?_) | (refine p_loadSF hH rfl rfl tO ?_) | (refine p_loadS hH rfl tW ?_))) | (refine p_neF rfl rfl ?_) | (refine p_eqF rfl rfl ?_))); exact r_nil one_end)) | (apply d_split; exact rfl; exact rfl; exact rfl; exact rfl; exact rfl; intro hg; rotate_left; intro hg; rotate_right) | (apply d_all1; exact rfl; kernel_rfl; exact rfl; exact rfl) | (apply d_all2; exact rfl; kernel_rfl; exact rfl; exact rfl; exact rfl; exact rfl) | (apply d_all3; exact rfl; kernel_rfl; exact rfl; exact rfl; exact rfl; exact rfl; exact rfl; exact rfl))) | refine then_end (hH.sub tSub) ?_)
  replace hH := hH.nil_ 37 2
  obtain ⟨g10, rfl⟩ : ∃ x, x = g := ⟨_, rfl⟩
  obtain ⟨g6, rfl⟩ : ∃ x, x = g := ⟨_, rfl⟩
  refine c_loopS (fun q : RdQ => [(1, .int .i64 (most : Int)), (2, .slice (some ad) b.length bc), (6, .pointer (some ⟨g6, 0, none⟩)), (10, .pointer (some ⟨g10, 0, none⟩)), (11, .int .i64 (q.fr : Int)), (12, .int .i64 (q.n : Int)), (21, .slice (some ad) b.length bc), (22, .int .i64 (b.length : Int)), (23, .int .i64 (q.i : Int))])
    (fun q w => q.fr ≤ q.i ∧ q.i ≤ b.length ∧ q.n ≤ q.i ∧ q.h.fields.length ≤ 100 ∧ Hp.readR most q.h q.n q.i (curL b q.fr q.i) (b.drop q.i) = R0 ∧
      Holds w0 (bl []) w [⟨some ad, 1, b.length, bytesV b, none⟩] [fldsO q.h (slF q.h q.fa q.fc), .pt g10 24 [.bool q.h.request, .string ⟨q.h.method.toArray⟩, .string ⟨q.h.target.toArray⟩, .int .i64 q.h.minor, .int .i64 q.h.status, .string ⟨q.h.reason.toArray⟩, .slice q.fa q.h.fields.length q.fc], .pt g6 24 [.bool false, .string ⟨#[]⟩, .string ⟨#[]⟩, .int .i64 0, .int .i64 0, .string ⟨#[]⟩, .slice none 0 0]]) (fun q => b.length - q.i) ⟨0, 0, 0, { request := rq }, none, 0⟩ tAg ⟨by simp, by simp, by simp, by simp, by simpa [curL] using hR0, hH⟩ (fun q f w hI => ?_)
  clear hH hR0
  obtain ⟨h1, h2, h3, hf, hR, hH⟩ := hI
  by_cases hlt : q.i < b.length
  · have k1 : decide ((q.i : Int) < (b.length : Int)) = true := by rw [decide_eq_true_eq]; omega
    have e1 : ((q.i : Int)).toNat * 1 = q.i := by omega
    have hcl := curL_len b (fr := q.fr) h2
    have hcur := curL_after b h1 h2
    rw [drop_cons b q.i hlt, readR_i, hcl] at hR
    have e2 : b.getD q.i 0 = b.getD (((q.i : Int)).toNat * 1) 0 := by rw [e1]
    rw [e2] at hR
    by_cases hfr : q.fr < q.i
    · have k2 : decide ((q.fr : Int) < (q.i : Int)) = true := by rw [decide_eq_true_eq]; omega
      by_cases h13 : ((b.getD (((q.i : Int) - 1).toNat * 1) 0).toNat : Int) = 13
      · have k13 : decide (((b.getD (((q.i : Int) - 1).toNat * 1) 0).toNat : Int) = 13) = true := by rw [decide_eq_true_eq]; exact h13
        have haf : Hp.afterP (curL b q.fr q.i) = true := by rw [hcur, k2, k13]; rfl
        clear hcur
        by_cases h10 : ((b.getD (((q.i : Int)).toNat * 1) 0).toNat : Int) = 10
        · have h61 := c61 q.h (q.n + 1) ((b.drop q.fr).take (((q.i : Int) - 1).toNat - ((q.fr : Int)).toNat)) q.fa q.fc hf (by simp; omega)
          have hlf := lineR_fields q.h (q.n + 1) ((b.drop q.fr).take (((q.i : Int) - 1).toNat - ((q.fr : Int)).toNat)) hf
          have hline : (curL b q.fr q.i).dropLast = (b.drop q.fr).take (((q.i : Int) - 1).toNat - ((q.fr : Int)).toNat) := by
            rw [curL_line b hfr h2]
            have : ((q.i : Int) - 1).toNat - ((q.fr : Int)).toNat = q.i - 1 - q.fr := by omega
            rw [this]
          rw [hline] at hR
          generalize Hp.lineR q.h (q.n + 1) ((b.drop q.fr).take (((q.i : Int) - 1).toNat - ((q.fr : Int)).toNat)) = L at *
          have k10 : decide (((b.getD (((q.i : Int)).toNat * 1) 0).toNat : Int) = 10) = true := by rw [decide_eq_true_eq]; exact h10
          have k10n : decide (((b.getD (((q.i : Int)).toNat * 1) 0).toNat : Int) ≠ 10) = false := by rw [decide_eq_false_iff_not]; simpa using h10
          have hB : (!(decide (((b.getD (((q.i : Int)).toNat * 1) 0).toNat : Int) = 10) == decide (((b.getD (((q.i : Int) - 1).toNat * 1) 0).toNat : Int) = 13))) = false := by rw [k10, k13]; rfl
          rw [k10, haf] at hR
          rw [if_neg (by simp)] at hR
          repeat' (first | refine stp ?_ | (refine g_guard ?_; (first | refine r_guardD rfl rfl rfl (fun hg hp => ?_) (fun hg hp => ?_) | refine r_guard rfl rfl rfl (fun hg => ?_) (fun hg => ?_))) | (refine g_load ?_; (first | (refine p_loadRF hH rfl rfl (by omega) tO ?_) | (refine p_loadSF hH rfl rfl tO ?_) | (refine p_loadSB hH rfl rfl tO ?_) | (refine p_loadRB hH rfl rfl (by omega) tO ?_) | (refine p_loadS hH rfl tW ?_))) | (refine g_call ?_; (first | (refine k_call (g := 61) Tryz.func61 rfl rfl hH (EvL.cons (EvK.any rfl) (EvL.cons (EvK.any rfl) (EvL.cons (EvK.any rfl) EvL.nil))) (h61) tTk tRd (fun v H1 w hT hH => ?_); obtain ⟨ga, gc, rfl, rfl⟩ := hT; simp only [List.nil_append, List.cons_append] at hH) | (refine p_appendL hH rfl rfl (Reads1.own (v := .nilIface) (Sel.mem tSel)) rfl rfl rfl tO rfl (fun vb vc w hH => ?_)))) | refine n_buildSlice1 hH tE rfl rfl rfl rfl tN (fun g w hg hH => ?_) | (refine r_toInt Tryz.underlying183 Tryz.underlying3 rfl (wrap_small (by omega)) ?_) | (refine p_toTextS hH rfl rfl tO rfl ?_) | (refine p_neF rfl rfl ?_) | (refine p_eqF rfl rfl ?_) | (refine p_toTextRo (b := b) hH rfl (by simp) (by omega) (by omega) ?_) | (refine g_store ?_; (first | refine n_store hH rfl tE rfl rfl tN (fun w hH => ?_) | refine n_storeA hH rfl rfl rfl rfl rfl tN (fun w hH => ?_))) | refine n_alloc hH tW (fun g w hg hH => ?_) | (refine g_box ?_; (first | refine p_boxA hH rfl (fun g w hg hH => ?_) | refine p_boxI hH rfl (fun g w hg hH => ?_) | refine p_boxL hH rfl (fun g w hg hH => ?_))) | (refine g_cond ?_; (first | refine c_condD rfl (fun hc hp => ?_) (fun hc hp => ?_) | refine c_cond rfl (fun hc => ?_) (fun hc => ?_))) | refine d_startS (P := Tryz.prog) hH (Sub.skip (Sub.keep (Sub.keep Sub.nil))) (fun hH => ?_) | refine d_start (P := Tryz.prog) hH (fun hH => ?_) | (refine g_any ?_; (first | (apply d_done; exact rfl; kernel_rfl) | (apply d_next; exact rfl; exact rfl; exact rfl; kernel_rfl; (first | (simp only [falses, setB]; exact rfl) | exact rfl); exact hH.sub tSub; (intro w hH; (repeat (first | refine stpO ?_ | (refine g_load ?_; (first | (refine p_loadRF hH rfl rfl (by omega) tO ?_) | (refine p_loadSF hH rfl rfl tO ?_) | (refine p_loadS hH rfl tW ?_))) | (refine p_neF rfl rfl ?_) | (refine p_eqF rfl rfl ?_))); exact r_nil one_end)) | (apply d_split; exact rfl; exact rfl; exact rfl; exact rfl; exact rfl; intro hg; rotate_left; intro hg; rotate_right) | (apply d_all1; exact rfl; kernel_rfl; exact rfl; exact rfl) | (apply d_all2; exact rfl; kernel_rfl; exact rfl; exact rfl; exact rfl; exact rfl) | (apply d_all3; exact rfl; kernel_rfl; exact rfl; exact rfl; exact rfl; exact rfl; exact rfl; exact rfl))) | refine then_end (hH.sub tSub) ?_)
          all_goals first
            | (rw [if_pos (by omega)] at hR
               subst hR
               refine e_end (H1 := [.sl NIL 37 2 0 []]) (resC4 (ty := 24) hH rfl rfl rfl rfl rfl rfl) (hH.nil_ 37 2) ⟨none, 0, ?_, rfl⟩ tTk
               rfl)
            | (rw [if_neg (by omega), if_neg (by omega), if_pos (by omega)] at hR
               subst hR
               refine e_end (H1 := [.sl NIL 37 2 0 []]) (resC4 (ty := 24) hH rfl rfl rfl rfl rfl rfl) (hH.nil_ 37 2) ⟨none, 0, ?_, rfl⟩ tTk
               rfl)
            | (rw [if_neg (by omega), if_neg (by omega), if_neg (by omega), if_pos (by assumption)] at hR
               subst hR
               refine e_end (H1 := [fldsO L.1 (slF L.1 ga gc)]) (resC4 (ty := 24) hH rfl rfl rfl rfl rfl rfl) hH ⟨ga, gc, ?_, rfl⟩ tTk
               rfl)
            | (have hw : ¬ (L.2.1 = true) := by first | assumption | (rw [Bool.not_eq_true]; assumption)
               rw [if_neg (by omega), if_neg (by omega), if_neg (by omega), if_neg hw] at hR
               refine ⟨⟨q.i + 1, q.i + 1, q.n + 1, L.1, ga, gc⟩, _, _, by simp only; omega, rfl, tAg, by simp only; omega, by simp only; omega, by simp only; omega, hlf (by omega), by rw [curL_nil]; exact hR, ?_⟩
               exact holds_take hH tTk)
        · have k10 : decide (((b.getD (((q.i : Int)).toNat * 1) 0).toNat : Int) = 10) = false := by rw [decide_eq_false_iff_not]; exact h10
          have k10n : decide (((b.getD (((q.i : Int)).toNat * 1) 0).toNat : Int) ≠ 10) = true := by rw [decide_eq_true_eq]; exact h10
          have hB : (!(decide (((b.getD (((q.i : Int)).toNat * 1) 0).toNat : Int) = 10) == decide (((b.getD (((q.i : Int) - 1).toNat * 1) 0).toNat : Int) = 13))) = true := by rw [k10, k13]; rfl
          rw [k10, haf] at hR
          rw [if_pos (by rfl)] at hR
          subst hR
          repeat' (first | refine stp ?_ | (refine g_guard ?_; (first | refine r_guardD rfl rfl rfl (fun hg hp => ?_) (fun hg hp => ?_) | refine r_guard rfl rfl rfl (fun hg => ?_) (fun hg => ?_))) | (refine g_load ?_; (first | (refine p_loadRF hH rfl rfl (by omega) tO ?_) | (refine p_loadSF hH rfl rfl tO ?_) | (refine p_loadSB hH rfl rfl tO ?_) | (refine p_loadRB hH rfl rfl (by omega) tO ?_) | (refine p_loadS hH rfl tW ?_))) | (refine g_call ?_; (first | (refine p_appendL hH rfl rfl (Reads1.own (v := .nilIface) (Sel.mem tSel)) rfl rfl rfl tO rfl (fun vb vc w hH => ?_)))) | refine n_buildSlice1 hH tE rfl rfl rfl rfl tN (fun g w hg hH => ?_) | (refine r_toInt Tryz.underlying183 Tryz.underlying3 rfl (wrap_small (by omega)) ?_) | (refine p_toTextS hH rfl rfl tO rfl ?_) | (refine p_neF rfl rfl ?_) | (refine p_eqF rfl rfl ?_) | (refine g_store ?_; (first | refine n_store hH rfl tE rfl rfl tN (fun w hH => ?_) | refine n_storeA hH rfl rfl rfl rfl rfl tN (fun w hH => ?_))) | refine n_alloc hH tW (fun g w hg hH => ?_) | (refine g_box ?_; (first | refine p_boxA hH rfl (fun g w hg hH => ?_) | refine p_boxI hH rfl (fun g w hg hH => ?_) | refine p_boxL hH rfl (fun g w hg hH => ?_))) | (refine g_cond ?_; (first | refine c_condD rfl (fun hc hp => ?_) (fun hc hp => ?_) | refine c_cond rfl (fun hc => ?_) (fun hc => ?_))) | refine d_start (P := Tryz.prog) hH (fun hH => ?_) | (refine g_any ?_; (first | (apply d_done; exact rfl; kernel_rfl) | (apply d_next; exact rfl; exact rfl; exact rfl; kernel_rfl; (first | (simp only [falses, setB]; exact rfl) | exact rfl); exact hH.sub tSub; (intro w hH; (repeat (first | refine stpO ?_ | (refine g_load ?_; (first | (refine p_loadRF hH rfl rfl (by omega) tO ?_) | (refine p_loadSF hH rfl rfl tO ?_) | (refine p_loadS hH rfl tW ?_))) | (refine p_neF rfl rfl ?_) | (refine p_eqF rfl rfl ?_))); exact r_nil one_end)) | (apply d_split; exact rfl; exact rfl; exact rfl; exact rfl; exact rfl; intro hg; rotate_left; intro hg; rotate_right) | (apply d_all1; exact rfl; kernel_rfl; exact rfl; exact rfl) | (apply d_all2; exact rfl; kernel_rfl; exact rfl; exact rfl; exact rfl; exact rfl) | (apply d_all3; exact rfl; kernel_rfl; exact rfl; exact rfl; exact rfl; exact rfl; exact rfl; exact rfl))) | refine then_end (hH.sub tSub) ?_)
          all_goals refine e_end (H1 := [.sl NIL 37 2 0 []]) (resC4 (ty := 24) hH rfl rfl rfl rfl rfl rfl) (hH.nil_ 37 2) ⟨none, 0, ?_, rfl⟩ tTk
          all_goals rfl
      · have k13 : decide (((b.getD (((q.i : Int) - 1).toNat * 1) 0).toNat : Int) = 13) = false := by rw [decide_eq_false_iff_not]; exact h13
        have haf : Hp.afterP (curL b q.fr q.i) = false := by rw [hcur, k2, k13]; rfl
        clear hcur
        by_cases h10 : ((b.getD (((q.i : Int)).toNat * 1) 0).toNat : Int) = 10
        · have k10 : decide (((b.getD (((q.i : Int)).toNat * 1) 0).toNat : Int) = 10) = true := by rw [decide_eq_true_eq]; exact h10
          have k10n : decide (((b.getD (((q.i : Int)).toNat * 1) 0).toNat : Int) ≠ 10) = false := by rw [decide_eq_false_iff_not]; simpa using h10
          have hB : (!(decide (((b.getD (((q.i : Int)).toNat * 1) 0).toNat : Int) = 10) == decide (((b.getD (((q.i : Int) - 1).toNat * 1) 0).toNat : Int) = 13))) = true := by rw [k10, k13]; rfl
          rw [k10, haf] at hR
          rw [if_pos (by rfl)] at hR
          subst hR
          repeat' (first | refine stp ?_ | (refine g_guard ?_; (first | refine r_guardD rfl rfl rfl (fun hg hp => ?_) (fun hg hp => ?_) | refine r_guard rfl rfl rfl (fun hg => ?_) (fun hg => ?_))) | (refine g_load ?_; (first | (refine p_loadRF hH rfl rfl (by omega) tO ?_) | (refine p_loadSF hH rfl rfl tO ?_) | (refine p_loadSB hH rfl rfl tO ?_) | (refine p_loadRB hH rfl rfl (by omega) tO ?_) | (refine p_loadS hH rfl tW ?_))) | (refine g_call ?_; (first | (refine p_appendL hH rfl rfl (Reads1.own (v := .nilIface) (Sel.mem tSel)) rfl rfl rfl tO rfl (fun vb vc w hH => ?_)))) | refine n_buildSlice1 hH tE rfl rfl rfl rfl tN (fun g w hg hH => ?_) | (refine r_toInt Tryz.underlying183 Tryz.underlying3 rfl (wrap_small (by omega)) ?_) | (refine p_toTextS hH rfl rfl tO rfl ?_) | (refine p_neF rfl rfl ?_) | (refine p_eqF rfl rfl ?_) | (refine g_store ?_; (first | refine n_store hH rfl tE rfl rfl tN (fun w hH => ?_) | refine n_storeA hH rfl rfl rfl rfl rfl tN (fun w hH => ?_))) | refine n_alloc hH tW (fun g w hg hH => ?_) | (refine g_box ?_; (first | refine p_boxA hH rfl (fun g w hg hH => ?_) | refine p_boxI hH rfl (fun g w hg hH => ?_) | refine p_boxL hH rfl (fun g w hg hH => ?_))) | (refine g_cond ?_; (first | refine c_condD rfl (fun hc hp => ?_) (fun hc hp => ?_) | refine c_cond rfl (fun hc => ?_) (fun hc => ?_))) | refine d_start (P := Tryz.prog) hH (fun hH => ?_) | (refine g_any ?_; (first | (apply d_done; exact rfl; kernel_rfl) | (apply d_next; exact rfl; exact rfl; exact rfl; kernel_rfl; (first | (simp only [falses, setB]; exact rfl) | exact rfl); exact hH.sub tSub; (intro w hH; (repeat (first | refine stpO ?_ | (refine g_load ?_; (first | (refine p_loadRF hH rfl rfl (by omega) tO ?_) | (refine p_loadSF hH rfl rfl tO ?_) | (refine p_loadS hH rfl tW ?_))) | (refine p_neF rfl rfl ?_) | (refine p_eqF rfl rfl ?_))); exact r_nil one_end)) | (apply d_split; exact rfl; exact rfl; exact rfl; exact rfl; exact rfl; intro hg; rotate_left; intro hg; rotate_right) | (apply d_all1; exact rfl; kernel_rfl; exact rfl; exact rfl) | (apply d_all2; exact rfl; kernel_rfl; exact rfl; exact rfl; exact rfl; exact rfl) | (apply d_all3; exact rfl; kernel_rfl; exact rfl; exact rfl; exact rfl; exact rfl; exact rfl; exact rfl))) | refine then_end (hH.sub tSub) ?_)
          all_goals refine e_end (H1 := [.sl NIL 37 2 0 []]) (resC4 (ty := 24) hH rfl rfl rfl rfl rfl rfl) (hH.nil_ 37 2) ⟨none, 0, ?_, rfl⟩ tTk
          all_goals rfl
        · have k10 : decide (((b.getD (((q.i : Int)).toNat * 1) 0).toNat : Int) = 10) = false := by rw [decide_eq_false_iff_not]; exact h10
          have k10n : decide (((b.getD (((q.i : Int)).toNat * 1) 0).toNat : Int) ≠ 10) = true := by rw [decide_eq_true_eq]; exact h10
          have hB : (!(decide (((b.getD (((q.i : Int)).toNat * 1) 0).toNat : Int) = 10) == decide (((b.getD (((q.i : Int) - 1).toNat * 1) 0).toNat : Int) = 13))) = false := by rw [k10, k13]; rfl
          rw [k10, haf] at hR
          rw [if_neg (by simp)] at hR
          repeat' (first | refine stp ?_ | (refine g_guard ?_; (first | refine r_guardD rfl rfl rfl (fun hg hp => ?_) (fun hg hp => ?_) | refine r_guard rfl rfl rfl (fun hg => ?_) (fun hg => ?_))) | (refine g_load ?_; (first | (refine p_loadRF hH rfl rfl (by omega) tO ?_) | (refine p_loadSF hH rfl rfl tO ?_) | (refine p_loadSB hH rfl rfl tO ?_) | (refine p_loadRB hH rfl rfl (by omega) tO ?_) | (refine p_loadS hH rfl tW ?_))) | (refine g_call ?_; (first | (refine p_appendL hH rfl rfl (Reads1.own (v := .nilIface) (Sel.mem tSel)) rfl rfl rfl tO rfl (fun vb vc w hH => ?_)))) | refine n_buildSlice1 hH tE rfl rfl rfl rfl tN (fun g w hg hH => ?_) | (refine r_toInt Tryz.underlying183 Tryz.underlying3 rfl (wrap_small (by omega)) ?_) | (refine p_toTextS hH rfl rfl tO rfl ?_) | (refine p_neF rfl rfl ?_) | (refine p_eqF rfl rfl ?_) | (refine g_store ?_; (first | refine n_store hH rfl tE rfl rfl tN (fun w hH => ?_) | refine n_storeA hH rfl rfl rfl rfl rfl tN (fun w hH => ?_))) | refine n_alloc hH tW (fun g w hg hH => ?_) | (refine g_box ?_; (first | refine p_boxA hH rfl (fun g w hg hH => ?_) | refine p_boxI hH rfl (fun g w hg hH => ?_) | refine p_boxL hH rfl (fun g w hg hH => ?_))) | (refine g_cond ?_; (first | refine c_condD rfl (fun hc hp => ?_) (fun hc hp => ?_) | refine c_cond rfl (fun hc => ?_) (fun hc => ?_))) | refine d_start (P := Tryz.prog) hH (fun hH => ?_) | (refine g_any ?_; (first | (apply d_done; exact rfl; kernel_rfl) | (apply d_next; exact rfl; exact rfl; exact rfl; kernel_rfl; (first | (simp only [falses, setB]; exact rfl) | exact rfl); exact hH.sub tSub; (intro w hH; (repeat (first | refine stpO ?_ | (refine g_load ?_; (first | (refine p_loadRF hH rfl rfl (by omega) tO ?_) | (refine p_loadSF hH rfl rfl tO ?_) | (refine p_loadS hH rfl tW ?_))) | (refine p_neF rfl rfl ?_) | (refine p_eqF rfl rfl ?_))); exact r_nil one_end)) | (apply d_split; exact rfl; exact rfl; exact rfl; exact rfl; exact rfl; intro hg; rotate_left; intro hg; rotate_right) | (apply d_all1; exact rfl; kernel_rfl; exact rfl; exact rfl) | (apply d_all2; exact rfl; kernel_rfl; exact rfl; exact rfl; exact rfl; exact rfl) | (apply d_all3; exact rfl; kernel_rfl; exact rfl; exact rfl; exact rfl; exact rfl; exact rfl; exact rfl))) | refine then_end (hH.sub tSub) ?_)
          all_goals first
            | (rw [if_pos (by omega)] at hR
               subst hR
               refine e_end (H1 := [.sl NIL 37 2 0 []]) (resC4 (ty := 24) hH rfl rfl rfl rfl rfl rfl) (hH.nil_ 37 2) ⟨none, 0, ?_, rfl⟩ tTk
               rfl)
            | (rw [if_neg (by omega), if_pos h10, ← curL_succ' b h1 hlt] at hR
               exact ⟨⟨q.i + 1, q.fr, q.n, q.h, q.fa, q.fc⟩, _, _, by simp only; omega, rfl, tAg, by simp only; omega, by simp only; omega, by simp only; omega, hf, hR, hH⟩)
    · have k2 : decide ((q.fr : Int) < (q.i : Int)) = false := by rw [decide_eq_false_iff_not]; omega
      have haf : Hp.afterP (curL b q.fr q.i) = false := by rw [hcur, k2]; rfl
      clear hcur
      by_cases h10 : ((b.getD (((q.i : Int)).toNat * 1) 0).toNat : Int) = 10
      · have k10 : decide (((b.getD (((q.i : Int)).toNat * 1) 0).toNat : Int) = 10) = true := by rw [decide_eq_true_eq]; exact h10
        have k10n : decide (((b.getD (((q.i : Int)).toNat * 1) 0).toNat : Int) ≠ 10) = false := by rw [decide_eq_false_iff_not]; simpa using h10
        have hB : (!(decide (((b.getD (((q.i : Int)).toNat * 1) 0).toNat : Int) = 10) == false)) = true := by rw [k10]; rfl
        rw [k10, haf] at hR
        rw [if_pos (by rfl)] at hR
        subst hR
        repeat' (first | refine stp ?_ | (refine g_guard ?_; (first | refine r_guardD rfl rfl rfl (fun hg hp => ?_) (fun hg hp => ?_) | refine r_guard rfl rfl rfl (fun hg => ?_) (fun hg => ?_))) | (refine g_load ?_; (first | (refine p_loadRF hH rfl rfl (by omega) tO ?_) | (refine p_loadSF hH rfl rfl tO ?_) | (refine p_loadSB hH rfl rfl tO ?_) | (refine p_loadRB hH rfl rfl (by omega) tO ?_) | (refine p_loadS hH rfl tW ?_))) | (refine g_call ?_; (first | (refine p_appendL hH rfl rfl (Reads1.own (v := .nilIface) (Sel.mem tSel)) rfl rfl rfl tO rfl (fun vb vc w hH => ?_)))) | refine n_buildSlice1 hH tE rfl rfl rfl rfl tN (fun g w hg hH => ?_) | (refine r_toInt Tryz.underlying183 Tryz.underlying3 rfl (wrap_small (by omega)) ?_) | (refine p_toTextS hH rfl rfl tO rfl ?_) | (refine p_neF rfl rfl ?_) | (refine p_eqF rfl rfl ?_) | (refine g_store ?_; (first | refine n_store hH rfl tE rfl rfl tN (fun w hH => ?_) | refine n_storeA hH rfl rfl rfl rfl rfl tN (fun w hH => ?_))) | refine n_alloc hH tW (fun g w hg hH => ?_) | (refine g_box ?_; (first | refine p_boxA hH rfl (fun g w hg hH => ?_) | refine p_boxI hH rfl (fun g w hg hH => ?_) | refine p_boxL hH rfl (fun g w hg hH => ?_))) | (refine g_cond ?_; (first | refine c_condD rfl (fun hc hp => ?_) (fun hc hp => ?_) | refine c_cond rfl (fun hc => ?_) (fun hc => ?_))) | refine d_start (P := Tryz.prog) hH (fun hH => ?_) | (refine g_any ?_; (first | (apply d_done; exact rfl; kernel_rfl) | (apply d_next; exact rfl; exact rfl; exact rfl; kernel_rfl; (first | (simp only [falses, setB]; exact rfl) | exact rfl); exact hH.sub tSub; (intro w hH; (repeat (first | refine stpO ?_ | (refine g_load ?_; (first | (refine p_loadRF hH rfl rfl (by omega) tO ?_) | (refine p_loadSF hH rfl rfl tO ?_) | (refine p_loadS hH rfl tW ?_))) | (refine p_neF rfl rfl ?_) | (refine p_eqF rfl rfl ?_))); exact r_nil one_end)) | (apply d_split; exact rfl; exact rfl; exact rfl; exact rfl; exact rfl; intro hg; rotate_left; intro hg; rotate_right) | (apply d_all1; exact rfl; kernel_rfl; exact rfl; exact rfl) | (apply d_all2; exact rfl; kernel_rfl; exact rfl; exact rfl; exact rfl; exact rfl) | (apply d_all3; exact rfl; kernel_rfl; exact rfl; exact rfl; exact rfl; exact rfl; exact rfl; exact rfl))) | refine then_end (hH.sub tSub) ?_)
        all_goals refine e_end (H1 := [.sl NIL 37 2 0 []]) (resC4 (ty := 24) hH rfl rfl rfl rfl rfl rfl) (hH.nil_ 37 2) ⟨none, 0, ?_, rfl⟩ tTk
        all_goals rfl
      · have k10 : decide (((b.getD (((q.i : Int)).toNat * 1) 0).toNat : Int) = 10) = false := by rw [decide_eq_false_iff_not]; exact h10
        have k10n : decide (((b.getD (((q.i : Int)).toNat * 1) 0).toNat : Int) ≠ 10) = true := by rw [decide_eq_true_eq]; exact h10
        have hB : (!(decide (((b.getD (((q.i : Int)).toNat * 1) 0).toNat : Int) = 10) == false)) = false := by rw [k10]; rfl
        rw [k10, haf] at hR
        rw [if_neg (by simp)] at hR
        repeat' (first | refine stp ?_ | (refine g_guard ?_; (first | refine r_guardD rfl rfl rfl (fun hg hp => ?_) (fun hg hp => ?_) | refine r_guard rfl rfl rfl (fun hg => ?_) (fun hg => ?_))) | (refine g_load ?_; (first | (refine p_loadRF hH rfl rfl (by omega) tO ?_) | (refine p_loadSF hH rfl rfl tO ?_) | (refine p_loadSB hH rfl rfl tO ?_) | (refine p_loadRB hH rfl rfl (by omega) tO ?_) | (refine p_loadS hH rfl tW ?_))) | (refine g_call ?_; (first | (refine p_appendL hH rfl rfl (Reads1.own (v := .nilIface) (Sel.mem tSel)) rfl rfl rfl tO rfl (fun vb vc w hH => ?_)))) | refine n_buildSlice1 hH tE rfl rfl rfl rfl tN (fun g w hg hH => ?_) | (refine r_toInt Tryz.underlying183 Tryz.underlying3 rfl (wrap_small (by omega)) ?_) | (refine p_toTextS hH rfl rfl tO rfl ?_) | (refine p_neF rfl rfl ?_) | (refine p_eqF rfl rfl ?_) | (refine g_store ?_; (first | refine n_store hH rfl tE rfl rfl tN (fun w hH => ?_) | refine n_storeA hH rfl rfl rfl rfl rfl tN (fun w hH => ?_))) | refine n_alloc hH tW (fun g w hg hH => ?_) | (refine g_box ?_; (first | refine p_boxA hH rfl (fun g w hg hH => ?_) | refine p_boxI hH rfl (fun g w hg hH => ?_) | refine p_boxL hH rfl (fun g w hg hH => ?_))) | (refine g_cond ?_; (first | refine c_condD rfl (fun hc hp => ?_) (fun hc hp => ?_) | refine c_cond rfl (fun hc => ?_) (fun hc => ?_))) | refine d_start (P := Tryz.prog) hH (fun hH => ?_) | (refine g_any ?_; (first | (apply d_done; exact rfl; kernel_rfl) | (apply d_next; exact rfl; exact rfl; exact rfl; kernel_rfl; (first | (simp only [falses, setB]; exact rfl) | exact rfl); exact hH.sub tSub; (intro w hH; (repeat (first | refine stpO ?_ | (refine g_load ?_; (first | (refine p_loadRF hH rfl rfl (by omega) tO ?_) | (refine p_loadSF hH rfl rfl tO ?_) | (refine p_loadS hH rfl tW ?_))) | (refine p_neF rfl rfl ?_) | (refine p_eqF rfl rfl ?_))); exact r_nil one_end)) | (apply d_split; exact rfl; exact rfl; exact rfl; exact rfl; exact rfl; intro hg; rotate_left; intro hg; rotate_right) | (apply d_all1; exact rfl; kernel_rfl; exact rfl; exact rfl) | (apply d_all2; exact rfl; kernel_rfl; exact rfl; exact rfl; exact rfl; exact rfl) | (apply d_all3; exact rfl; kernel_rfl; exact rfl; exact rfl; exact rfl; exact rfl; exact rfl; exact rfl))) | refine then_end (hH.sub tSub) ?_)
        all_goals first
          | (rw [if_pos (by omega)] at hR
             subst hR
             refine e_end (H1 := [.sl NIL 37 2 0 []]) (resC4 (ty := 24) hH rfl rfl rfl rfl rfl rfl) (hH.nil_ 37 2) ⟨none, 0, ?_, rfl⟩ tTk
             rfl)
          | (rw [if_neg (by omega), if_pos h10, ← curL_succ' b h1 hlt] at hR
             exact ⟨⟨q.i + 1, q.fr, q.n, q.h, q.fa, q.fc⟩, _, _, by simp only; omega, rfl, tAg, by simp only; omega, by simp only; omega, by simp only; omega, hf, hR, hH⟩)
  · have k1 : decide ((q.i : Int) < (b.length : Int)) = false := by rw [decide_eq_false_iff_not]; omega
    have hi : q.i = b.length := by omega
    rw [hi, List.drop_length] at hR
    simp only [Hp.readR] at hR
    subst hR
    repeat' (first | refine stp ?_ | (refine g_guard ?_; (first | refine r_guardD rfl rfl rfl (fun hg hp => ?_) (fun hg hp => ?_) | refine r_guard rfl rfl rfl (fun hg => ?_) (fun hg => ?_))) | (refine g_load ?_; (first | (refine p_loadRF hH rfl rfl (by omega) tO ?_) | (refine p_loadSF hH rfl rfl tO ?_) | (refine p_loadSB hH rfl rfl tO ?_) | (refine p_loadRB hH rfl rfl (by omega) tO ?_) | (refine p_loadS hH rfl tW ?_))) | (refine g_call ?_; (first | (refine p_appendL hH rfl rfl (Reads1.own (v := .nilIface) (Sel.mem tSel)) rfl rfl rfl tO rfl (fun vb vc w hH => ?_)))) | refine n_buildSlice1 hH tE rfl rfl rfl rfl tN (fun g w hg hH => ?_) | (refine r_toInt Tryz.underlying183 Tryz.underlying3 rfl (wrap_small (by omega)) ?_) | (refine p_toTextS hH rfl rfl tO rfl ?_) | (refine p_neF rfl rfl ?_) | (refine p_eqF rfl rfl ?_) | (refine g_store ?_; (first | refine n_store hH rfl tE rfl rfl tN (fun w hH => ?_) | refine n_storeA hH rfl rfl rfl rfl rfl tN (fun w hH => ?_))) | refine n_alloc hH tW (fun g w hg hH => ?_) | (refine g_box ?_; (first | refine p_boxA hH rfl (fun g w hg hH => ?_) | refine p_boxI hH rfl (fun g w hg hH => ?_) | refine p_boxL hH rfl (fun g w hg hH => ?_))) | (refine g_cond ?_; (first | refine c_condD rfl (fun hc hp => ?_) (fun hc hp => ?_) | refine c_cond rfl (fun hc => ?_) (fun hc => ?_))) | refine d_start (P := Tryz.prog) hH (fun hH => ?_) | (refine g_any ?_; (first | (apply d_done; exact rfl; kernel_rfl) | (apply d_next; exact rfl; exact rfl; exact rfl; kernel_rfl; (first | (simp only [falses, setB]; exact rfl) | exact rfl); exact hH.sub tSub; (intro w hH; (repeat (first | refine stpO ?_ | (refine g_load ?_; (first | (refine p_loadRF hH rfl rfl (by omega) tO ?_) | (refine p_loadSF hH rfl rfl tO ?_) | (refine p_loadS hH rfl tW ?_))) | (refine p_neF rfl rfl ?_) | (refine p_eqF rfl rfl ?_))); exact r_nil one_end)) | (apply d_split; exact rfl; exact rfl; exact rfl; exact rfl; exact rfl; intro hg; rotate_left; intro hg; rotate_right) | (apply d_all1; exact rfl; kernel_rfl; exact rfl; exact rfl) | (apply d_all2; exact rfl; kernel_rfl; exact rfl; exact rfl; exact rfl; exact rfl) | (apply d_all3; exact rfl; kernel_rfl; exact rfl; exact rfl; exact rfl; exact rfl; exact rfl; exact rfl))) | refine then_end (hH.sub tSub) ?_)
    all_goals refine e_end (H1 := [.sl NIL 37 2 0 []]) (resC4 (ty := 24) hH rfl rfl rfl rfl rfl rfl) (hH.nil_ 37 2) ⟨none, 0, ?_, rfl⟩ tTk
    all_goals rfl

end Go.Proofs.YtiofekhdicfmoaaGreatDoor

namespace Go.Proofs.YtiofekhdicfmoaaGreatDoor
open Go Go.Hr
attribute [local irreducible] Go.wpList Go.Code.wp Go.Calls Go.Hr.CallsA Go.wpAnyH Go.callFunc Go.callMethod Go.Instr.typeAssert Go.Sem.run
set_option maxHeartbeats 4000000
set_option linter.all false

set_option maxRecDepth 8000
open Go.RowKit
theorem parse_ref (r : Bool) (b : List UInt8) : Hp.parseP r b = (if (Hp.readR 65536 { request := r } 0 0 [] b).e ≠ 0 then ({}, 0, (Hp.readR 65536 { request := r } 0 0 [] b).e) else
    if (Hp.readR 65536 { request := r } 0 0 [] b).whole = true then ((Hp.readR 65536 { request := r } 0 0 [] b).head, (Hp.readR 65536 { request := r } 0 0 [] b).n, 0) else ({}, 0, 6)) := by
  rw [Hp.read_new]
  unfold Hp.parseP Hp.outR
  obtain ⟨X, hX⟩ : ∃ X, Hp.feedP (Hp.newP r 65536) b = X := ⟨_, rfl⟩
  rw [hX]
  dsimp only
  split
  · rfl
  · split <;> rfl
theorem c48 (r : Bool) (ad : Addr) (bc : Nat) (b : List UInt8) (hb : b.length ≤ 1099511627776) (hbc : b.length ≤ bc) :
    CallsA Tryz.prog 48 (List.toArray [.bool r, .slice (some ad) b.length bc]) [⟨some ad, 1, b.length, bytesV b, none⟩] [] (ParT (Hp.parseP r b)) := by
  rw [parse_ref]
  have h28 : CallsA Tryz.prog 28 (List.toArray [.bool r, .int .i64 65536, .slice (some ad) b.length bc]) [⟨some ad, 1, b.length, bytesV b, none⟩] [] (ReadT (Hp.readR 65536 { request := r } 0 0 [] b)) := c28a r 65536 ad bc b hb hbc (by omega)
  generalize Hp.readR 65536 { request := r } 0 0 [] b = X at *
  by_cases he : X.e = 0
  · rw [if_neg (by simp [he])]
    have k0 : decide ((X.e : Int) ≠ 0) = false := by rw [decide_eq_false_iff_not]; omega
    cases hw : X.whole with
    | true =>
      have k1 : (!X.whole) = false := by rw [hw]; rfl
      rw [if_pos rfl]
      refine callsA_of (args := [_, _]) Tryz.func48 rfl Tryz.ntmps48 (by simp) ?_
      intro w0 hH
      repeat' (first | refine stp ?_ | (refine g_guard ?_; (first | refine r_guardD rfl rfl rfl (fun hg hp => ?_) (fun hg hp => ?_) | refine r_guard rfl rfl rfl (fun hg => ?_) (fun hg => ?_))) | (refine g_load ?_; (first | (refine p_loadRF hH rfl rfl (by omega) tO ?_) | (refine p_loadSF hH rfl rfl tO ?_) | (refine p_loadSB hH rfl rfl tO ?_) | (refine p_loadRB hH rfl rfl (by omega) tO ?_) | (refine p_loadS hH rfl tW ?_))) | (refine g_call ?_; (first | (refine k_call (g := 28) Tryz.func28 rfl rfl hH (EvL.cons (EvK.any rfl) (EvL.cons (EvK.any rfl) (EvL.cons (EvK.any rfl) EvL.nil))) (h28) tTk tRd (fun v H1 w hT hH => ?_); obtain ⟨ga, gc, rfl, rfl⟩ := hT; simp only [List.nil_append, List.cons_append] at hH) | (refine p_appendL hH rfl rfl (Reads1.own (v := .nilIface) (Sel.mem tSel)) rfl rfl rfl tO rfl (fun vb vc w hH => ?_)))) | refine n_buildSlice1 hH tE rfl rfl rfl rfl tN (fun g w hg hH => ?_) | (refine r_toInt Tryz.underlying183 Tryz.underlying3 rfl (wrap_small (by omega)) ?_) | (refine p_toTextS hH rfl rfl tO rfl ?_) | (refine p_neF rfl rfl ?_) | (refine p_eqF rfl rfl ?_) | (refine g_store ?_; (first | refine n_store hH rfl tE rfl rfl tN (fun w hH => ?_) | refine n_storeA hH rfl rfl rfl rfl rfl tN (fun w hH => ?_))) | refine n_alloc hH tW (fun g w hg hH => ?_) | (refine g_box ?_; (first | refine p_boxA hH rfl (fun g w hg hH => ?_) | refine p_boxI hH rfl (fun g w hg hH => ?_) | refine p_boxL hH rfl (fun g w hg hH => ?_))) | (refine g_cond ?_; (first | refine c_condD rfl (fun hc hp => ?_) (fun hc hp => ?_) | refine c_cond rfl (fun hc => ?_) (fun hc => ?_))) | refine d_start (P := Tryz.prog) hH (fun hH => ?_) | (refine g_any ?_; (first | (apply d_done; exact rfl; kernel_rfl) | (apply d_next; exact rfl; exact rfl; exact rfl; kernel_rfl; (first | (simp only [falses, setB]; exact rfl) | exact rfl); exact hH.sub tSub; (intro w hH; (repeat (first | refine stpO ?_ | (refine g_load ?_; (first | (refine p_loadRF hH rfl rfl (by omega) tO ?_) | (refine p_loadSF hH rfl rfl tO ?_) | (refine p_loadS hH rfl tW ?_))) | (refine p_neF rfl rfl ?_) | (refine p_eqF rfl rfl ?_))); exact r_nil one_end)) | (apply d_split; exact rfl; exact rfl; exact rfl; exact rfl; exact rfl; intro hg; rotate_left; intro hg; rotate_right) | (apply d_all1; exact rfl; kernel_rfl; exact rfl; exact rfl) | (apply d_all2; exact rfl; kernel_rfl; exact rfl; exact rfl; exact rfl; exact rfl) | (apply d_all3; exact rfl; kernel_rfl; exact rfl; exact rfl; exact rfl; exact rfl; exact rfl; exact rfl))) | refine then_end (hH.sub tSub) ?_)
      all_goals refine e_end (H1 := [fldsO X.head (slF X.head ga gc)]) (resC3 (ty := 24) hH rfl rfl rfl rfl rfl) hH ⟨ga, gc, rfl, rfl⟩ tTk
    | false =>
      have k1 : (!X.whole) = true := by rw [hw]; rfl
      rw [if_neg (by simp)]
      refine callsA_of (args := [_, _]) Tryz.func48 rfl Tryz.ntmps48 (by simp) ?_
      intro w0 hH
      repeat' (first | refine stp ?_ | (refine g_guard ?_; (first | refine r_guardD rfl rfl rfl (fun hg hp => ?_) (fun hg hp => ?_) | refine r_guard rfl rfl rfl (fun hg => ?_) (fun hg => ?_))) | (refine g_load ?_; (first | (refine p_loadRF hH rfl rfl (by omega) tO ?_) | (refine p_loadSF hH rfl rfl tO ?_) | (refine p_loadSB hH rfl rfl tO ?_) | (refine p_loadRB hH rfl rfl (by omega) tO ?_) | (refine p_loadS hH rfl tW ?_))) | (refine g_call ?_; (first | (refine k_call (g := 28) Tryz.func28 rfl rfl hH (EvL.cons (EvK.any rfl) (EvL.cons (EvK.any rfl) (EvL.cons (EvK.any rfl) EvL.nil))) (h28) tTk tRd (fun v H1 w hT hH => ?_); obtain ⟨ga, gc, rfl, rfl⟩ := hT; simp only [List.nil_append, List.cons_append] at hH) | (refine p_appendL hH rfl rfl (Reads1.own (v := .nilIface) (Sel.mem tSel)) rfl rfl rfl tO rfl (fun vb vc w hH => ?_)))) | refine n_buildSlice1 hH tE rfl rfl rfl rfl tN (fun g w hg hH => ?_) | (refine r_toInt Tryz.underlying183 Tryz.underlying3 rfl (wrap_small (by omega)) ?_) | (refine p_toTextS hH rfl rfl tO rfl ?_) | (refine p_neF rfl rfl ?_) | (refine p_eqF rfl rfl ?_) | (refine g_store ?_; (first | refine n_store hH rfl tE rfl rfl tN (fun w hH => ?_) | refine n_storeA hH rfl rfl rfl rfl rfl tN (fun w hH => ?_))) | refine n_alloc hH tW (fun g w hg hH => ?_) | (refine g_box ?_; (first | refine p_boxA hH rfl (fun g w hg hH => ?_) | refine p_boxI hH rfl (fun g w hg hH => ?_) | refine p_boxL hH rfl (fun g w hg hH => ?_))) | (refine g_cond ?_; (first | refine c_condD rfl (fun hc hp => ?_) (fun hc hp => ?_) | refine c_cond rfl (fun hc => ?_) (fun hc => ?_))) | refine d_start (P := Tryz.prog) hH (fun hH => ?_) | (refine g_any ?_; (first | (apply d_done; exact rfl; kernel_rfl) | (apply d_next; exact rfl; exact rfl; exact rfl; kernel_rfl; (first | (simp only [falses, setB]; exact rfl) | exact rfl); exact hH.sub tSub; (intro w hH; (repeat (first | refine stpO ?_ | (refine g_load ?_; (first | (refine p_loadRF hH rfl rfl (by omega) tO ?_) | (refine p_loadSF hH rfl rfl tO ?_) | (refine p_loadS hH rfl tW ?_))) | (refine p_neF rfl rfl ?_) | (refine p_eqF rfl rfl ?_))); exact r_nil one_end)) | (apply d_split; exact rfl; exact rfl; exact rfl; exact rfl; exact rfl; intro hg; rotate_left; intro hg; rotate_right) | (apply d_all1; exact rfl; kernel_rfl; exact rfl; exact rfl) | (apply d_all2; exact rfl; kernel_rfl; exact rfl; exact rfl; exact rfl; exact rfl) | (apply d_all3; exact rfl; kernel_rfl; exact rfl; exact rfl; exact rfl; exact rfl; exact rfl; exact rfl))) | refine then_end (hH.sub tSub) ?_)
      all_goals refine e_end (H1 := [.sl NIL 37 2 0 []]) (resC3 (ty := 24) hH rfl rfl rfl rfl rfl) (hH.nil_ 37 2) ⟨none, 0, ?_, rfl⟩ tTk
      all_goals rfl
  · rw [if_pos he]
    have k0 : decide ((X.e : Int) ≠ 0) = true := by rw [decide_eq_true_eq]; omega
    refine callsA_of (args := [_, _]) Tryz.func48 rfl Tryz.ntmps48 (by simp) ?_
    intro w0 hH
    repeat' (first | refine stp ?_ | (refine g_guard ?_; (first | refine r_guardD rfl rfl rfl (fun hg hp => ?_) (fun hg hp => ?_) | refine r_guard rfl rfl rfl (fun hg => ?_) (fun hg => ?_))) | (refine g_load ?_; (first | (refine p_loadRF hH rfl rfl (by omega) tO ?_) | (refine p_loadSF hH rfl rfl tO ?_) | (refine p_loadSB hH rfl rfl tO ?_) | (refine p_loadRB hH rfl rfl (by omega) tO ?_) | (refine p_loadS hH rfl tW ?_))) | (refine g_call ?_; (first | (refine k_call (g := 28) Tryz.func28 rfl rfl hH (EvL.cons (EvK.any rfl) (EvL.cons (EvK.any rfl) (EvL.cons (EvK.any rfl) EvL.nil))) (h28) tTk tRd (fun v H1 w hT hH => ?_); obtain ⟨ga, gc, rfl, rfl⟩ := hT; simp only [List.nil_append, List.cons_append] at hH) | (refine p_appendL hH rfl rfl (Reads1.own (v := .nilIface) (Sel.mem tSel)) rfl rfl rfl tO rfl (fun vb vc w hH => ?_)))) | refine n_buildSlice1 hH tE rfl rfl rfl rfl tN (fun g w hg hH => ?_) | (refine r_toInt Tryz.underlying183 Tryz.underlying3 rfl (wrap_small (by omega)) ?_) | (refine p_toTextS hH rfl rfl tO rfl ?_) | (refine p_neF rfl rfl ?_) | (refine p_eqF rfl rfl ?_) | (refine g_store ?_; (first | refine n_store hH rfl tE rfl rfl tN (fun w hH => ?_) | refine n_storeA hH rfl rfl rfl rfl rfl tN (fun w hH => ?_))) | refine n_alloc hH tW (fun g w hg hH => ?_) | (refine g_box ?_; (first | refine p_boxA hH rfl (fun g w hg hH => ?_) | refine p_boxI hH rfl (fun g w hg hH => ?_) | refine p_boxL hH rfl (fun g w hg hH => ?_))) | (refine g_cond ?_; (first | refine c_condD rfl (fun hc hp => ?_) (fun hc hp => ?_) | refine c_cond rfl (fun hc => ?_) (fun hc => ?_))) | refine d_start (P := Tryz.prog) hH (fun hH => ?_) | (refine g_any ?_; (first | (apply d_done; exact rfl; kernel_rfl) | (apply d_next; exact rfl; exact rfl; exact rfl; kernel_rfl; (first | (simp only [falses, setB]; exact rfl) | exact rfl); exact hH.sub tSub; (intro w hH; (repeat (first | refine stpO ?_ | (refine g_load ?_; (first | (refine p_loadRF hH rfl rfl (by omega) tO ?_) | (refine p_loadSF hH rfl rfl tO ?_) | (refine p_loadS hH rfl tW ?_))) | (refine p_neF rfl rfl ?_) | (refine p_eqF rfl rfl ?_))); exact r_nil one_end)) | (apply d_split; exact rfl; exact rfl; exact rfl; exact rfl; exact rfl; intro hg; rotate_left; intro hg; rotate_right) | (apply d_all1; exact rfl; kernel_rfl; exact rfl; exact rfl) | (apply d_all2; exact rfl; kernel_rfl; exact rfl; exact rfl; exact rfl; exact rfl) | (apply d_all3; exact rfl; kernel_rfl; exact rfl; exact rfl; exact rfl; exact rfl; exact rfl; exact rfl))) | refine then_end (hH.sub tSub) ?_)
    all_goals refine e_end (H1 := [.sl NIL 37 2 0 []]) (resC3 (ty := 24) hH rfl rfl rfl rfl rfl) (hH.nil_ 37 2) ⟨none, 0, ?_, rfl⟩ tTk
    all_goals rfl
theorem c49 (x1 x2 : Hp.HeadP) (fa ga : Option Addr) (fc gc : Nat) (hl : x1.fields.length ≤ 1099511627776) :
    CallsA Tryz.prog 49 (List.toArray [headV x1 (slF x1 fa fc), headV x2 (slF x2 ga gc)]) [⟨fa, 2, x1.fields.length, fldV x1.fields, none⟩, ⟨ga, 2, x2.fields.length, fldV x2.fields, none⟩] [] (fun v H' => v = .bool (decide (x1 = x2)) ∧ H' = []) := by
  refine callsA_of (args := [_, _]) Tryz.func49 rfl Tryz.ntmps49 (by simp) ?_
  intro w0 hH
  repeat' (first | refine stp ?_ | (refine g_guard ?_; (first | refine r_guardD rfl rfl rfl (fun hg hp => ?_) (fun hg hp => ?_) | refine r_guard rfl rfl rfl (fun hg => ?_) (fun hg => ?_))) | (refine g_load ?_; (first | (refine p_loadRF hH rfl rfl (by omega) tO ?_) | (refine p_loadSF hH rfl rfl tO ?_) | (refine p_loadSB hH rfl rfl tO ?_) | (refine p_loadRB hH rfl rfl (by omega) tO ?_) | (refine p_loadS hH rfl tW ?_))) | (refine g_call ?_; (first | (refine p_appendL hH rfl rfl (Reads1.own (v := .nilIface) (Sel.mem tSel)) rfl rfl rfl tO rfl (fun vb vc w hH => ?_)))) | refine n_buildSlice1 hH tE rfl rfl rfl rfl tN (fun g w hg hH => ?_) | (refine r_toInt Tryz.underlying183 Tryz.underlying3 rfl (wrap_small (by omega)) ?_) | (refine p_toTextS hH rfl rfl tO rfl ?_) | (refine p_neF rfl rfl ?_) | (refine p_eqF rfl rfl ?_) | (refine g_store ?_; (first | refine n_store hH rfl tE rfl rfl tN (fun w hH => ?_) | refine n_storeA hH rfl rfl rfl rfl rfl tN (fun w hH => ?_))) | refine n_alloc hH tW (fun g w hg hH => ?_) | (refine g_box ?_; (first | refine p_boxA hH rfl (fun g w hg hH => ?_) | refine p_boxI hH rfl (fun g w hg hH => ?_) | refine p_boxL hH rfl (fun g w hg hH => ?_))) | (refine g_cond ?_; (first | refine c_condD rfl (fun hc hp => ?_) (fun hc hp => ?_) | refine c_cond rfl (fun hc => ?_) (fun hc => ?_))) | refine d_start (P := Tryz.prog) hH (fun hH => ?_) | (refine g_any ?_; (first | (apply d_done; exact rfl; kernel_rfl) | (apply d_next; exact rfl; exact rfl; exact rfl; kernel_rfl; (first | (simp only [falses, setB]; exact rfl) | exact rfl); exact hH.sub tSub; (intro w hH; (repeat (first | refine stpO ?_ | (refine g_load ?_; (first | (refine p_loadRF hH rfl rfl (by omega) tO ?_) | (refine p_loadSF hH rfl rfl tO ?_) | (refine p_loadS hH rfl tW ?_))) | (refine p_neF rfl rfl ?_) | (refine p_eqF rfl rfl ?_))); exact r_nil one_end)) | (apply d_split; exact rfl; exact rfl; exact rfl; exact rfl; exact rfl; intro hg; rotate_left; intro hg; rotate_right) | (apply d_all1; exact rfl; kernel_rfl; exact rfl; exact rfl) | (apply d_all2; exact rfl; kernel_rfl; exact rfl; exact rfl; exact rfl; exact rfl) | (apply d_all3; exact rfl; kernel_rfl; exact rfl; exact rfl; exact rfl; exact rfl; exact rfl; exact rfl))) | refine then_end (hH.sub tSub) ?_)
  all_goals first
    | (refine e_end (res1 rfl rfl) hH ⟨?_, rfl⟩ tTk
       refine congrArg Value.bool ?_
       symm
       apply decide_eq_false
       clear hH
       rintro rfl
       first
       | (simp at hp; done)
       | (simp at hg; done)
       | (simp at hc; done))
    | skip
  obtain ⟨g2, rfl⟩ : ∃ x, x = g := ⟨_, rfl⟩
  obtain ⟨g1, rfl⟩ : ∃ x, x = g := ⟨_, rfl⟩
  have hn : x1.fields.length = x2.fields.length := by omega
  refine c_loopS (fun i : Nat => [(2, bAt g1), (3, bAt g2), (56, slF x1 fa fc), (57, .int .i64 (x1.fields.length : Int)), (58, .int .i64 (i : Int))])
      (fun i w => i ≤ x1.fields.length ∧ x1.fields.take i = x2.fields.take i ∧ Holds w0 (bl []) w [⟨fa, 2, x1.fields.length, fldV x1.fields, none⟩, ⟨ga, 2, x2.fields.length, fldV x2.fields, none⟩] [.pt g2 24 [.bool x2.request, .string ⟨x2.method.toArray⟩, .string ⟨x2.target.toArray⟩, .int .i64 x2.minor, .int .i64 x2.status, .string ⟨x2.reason.toArray⟩, slF x2 ga gc], .pt g1 24 [.bool x1.request, .string ⟨x1.method.toArray⟩, .string ⟨x1.target.toArray⟩, .int .i64 x1.minor, .int .i64 x1.status, .string ⟨x1.reason.toArray⟩, slF x1 fa fc]]) (fun i => x1.fields.length - i) 0 tAg ⟨by omega, rfl, hH⟩ (fun i f w hI => ?_)
  clear hH
  obtain ⟨hi, htk, hH⟩ := hI
  by_cases hlt : i < x1.fields.length
  · have k1 : decide ((i : Int) < (x1.fields.length : Int)) = true := by simpa using hlt
    obtain ⟨aa, ha, _⟩ := (hH.ro _ (List.mem_cons_self ..)).1.2 (show 0 < x1.fields.length by omega)
    obtain ⟨ab, hb, _⟩ := (hH.ro _ (List.mem_cons_of_mem _ (List.mem_cons_self ..))).1.2 (show 0 < x2.fields.length by omega)
    simp only at ha hb
    subst ha hb
    have e1 : ((i : Int)).toNat = i := by omega
    repeat' (first | refine stp ?_ | (refine g_guard ?_; (first | refine r_guardD rfl rfl rfl (fun hg hp => ?_) (fun hg hp => ?_) | refine r_guard rfl rfl rfl (fun hg => ?_) (fun hg => ?_))) | (refine g_load ?_; (first | (refine p_loadRF hH rfl rfl (by omega) tO ?_) | (refine p_loadSF hH rfl rfl tO ?_) | (refine p_loadSB hH rfl rfl tO ?_) | (refine p_loadRB hH rfl rfl (by omega) tO ?_) | (refine p_loadS hH rfl tW ?_))) | (refine g_call ?_; (first | (refine p_appendL hH rfl rfl (Reads1.own (v := .nilIface) (Sel.mem tSel)) rfl rfl rfl tO rfl (fun vb vc w hH => ?_)))) | refine n_buildSlice1 hH tE rfl rfl rfl rfl tN (fun g w hg hH => ?_) | (refine r_toInt Tryz.underlying183 Tryz.underlying3 rfl (wrap_small (by omega)) ?_) | (refine p_toTextS hH rfl rfl tO rfl ?_) | (refine p_neF rfl rfl ?_) | (refine p_eqF rfl rfl ?_) | (refine g_store ?_; (first | refine n_store hH rfl tE rfl rfl tN (fun w hH => ?_) | refine n_storeA hH rfl rfl rfl rfl rfl tN (fun w hH => ?_))) | refine n_alloc hH tW (fun g w hg hH => ?_) | (refine g_box ?_; (first | refine p_boxA hH rfl (fun g w hg hH => ?_) | refine p_boxI hH rfl (fun g w hg hH => ?_) | refine p_boxL hH rfl (fun g w hg hH => ?_))) | (refine g_cond ?_; (first | refine c_condD rfl (fun hc hp => ?_) (fun hc hp => ?_) | refine c_cond rfl (fun hc => ?_) (fun hc => ?_))) | refine d_start (P := Tryz.prog) hH (fun hH => ?_) | (refine g_any ?_; (first | (apply d_done; exact rfl; kernel_rfl) | (apply d_next; exact rfl; exact rfl; exact rfl; kernel_rfl; (first | (simp only [falses, setB]; exact rfl) | exact rfl); exact hH.sub tSub; (intro w hH; (repeat (first | refine stpO ?_ | (refine g_load ?_; (first | (refine p_loadRF hH rfl rfl (by omega) tO ?_) | (refine p_loadSF hH rfl rfl tO ?_) | (refine p_loadS hH rfl tW ?_))) | (refine p_neF rfl rfl ?_) | (refine p_eqF rfl rfl ?_))); exact r_nil one_end)) | (apply d_split; exact rfl; exact rfl; exact rfl; exact rfl; exact rfl; intro hg; rotate_left; intro hg; rotate_right) | (apply d_all1; exact rfl; kernel_rfl; exact rfl; exact rfl) | (apply d_all2; exact rfl; kernel_rfl; exact rfl; exact rfl; exact rfl; exact rfl) | (apply d_all3; exact rfl; kernel_rfl; exact rfl; exact rfl; exact rfl; exact rfl; exact rfl; exact rfl))) | refine then_end (hH.sub tSub) ?_)
    · refine e_end (res1 rfl rfl) hH ⟨?_, rfl⟩ tTk
      refine congrArg Value.bool ?_
      symm
      apply decide_eq_false
      clear hH
      rintro rfl
      simp at hc
    · refine ⟨i + 1, _, _, by omega, rfl, tAg, by omega, ?_, hH.sub tSub⟩
      rw [e1] at hc
      simp only [Bool.not_eq_false', Bool.and_eq_true, decide_eq_true_eq] at hc
      exact fld_take x1.fields x2.fields i hlt (by omega) htk hc.1 hc.2
  · have k1 : decide ((i : Int) < (x1.fields.length : Int)) = false := by simpa using hlt
    have e : i = x1.fields.length := by omega
    subst e
    rw [List.take_length, hn, List.take_length] at htk
    repeat' (first | refine stp ?_ | (refine g_guard ?_; (first | refine r_guardD rfl rfl rfl (fun hg hp => ?_) (fun hg hp => ?_) | refine r_guard rfl rfl rfl (fun hg => ?_) (fun hg => ?_))) | (refine g_load ?_; (first | (refine p_loadRF hH rfl rfl (by omega) tO ?_) | (refine p_loadSF hH rfl rfl tO ?_) | (refine p_loadSB hH rfl rfl tO ?_) | (refine p_loadRB hH rfl rfl (by omega) tO ?_) | (refine p_loadS hH rfl tW ?_))) | (refine g_call ?_; (first | (refine p_appendL hH rfl rfl (Reads1.own (v := .nilIface) (Sel.mem tSel)) rfl rfl rfl tO rfl (fun vb vc w hH => ?_)))) | refine n_buildSlice1 hH tE rfl rfl rfl rfl tN (fun g w hg hH => ?_) | (refine r_toInt Tryz.underlying183 Tryz.underlying3 rfl (wrap_small (by omega)) ?_) | (refine p_toTextS hH rfl rfl tO rfl ?_) | (refine p_neF rfl rfl ?_) | (refine p_eqF rfl rfl ?_) | (refine g_store ?_; (first | refine n_store hH rfl tE rfl rfl tN (fun w hH => ?_) | refine n_storeA hH rfl rfl rfl rfl rfl tN (fun w hH => ?_))) | refine n_alloc hH tW (fun g w hg hH => ?_) | (refine g_box ?_; (first | refine p_boxA hH rfl (fun g w hg hH => ?_) | refine p_boxI hH rfl (fun g w hg hH => ?_) | refine p_boxL hH rfl (fun g w hg hH => ?_))) | (refine g_cond ?_; (first | refine c_condD rfl (fun hc hp => ?_) (fun hc hp => ?_) | refine c_cond rfl (fun hc => ?_) (fun hc => ?_))) | refine d_start (P := Tryz.prog) hH (fun hH => ?_) | (refine g_any ?_; (first | (apply d_done; exact rfl; kernel_rfl) | (apply d_next; exact rfl; exact rfl; exact rfl; kernel_rfl; (first | (simp only [falses, setB]; exact rfl) | exact rfl); exact hH.sub tSub; (intro w hH; (repeat (first | refine stpO ?_ | (refine g_load ?_; (first | (refine p_loadRF hH rfl rfl (by omega) tO ?_) | (refine p_loadSF hH rfl rfl tO ?_) | (refine p_loadS hH rfl tW ?_))) | (refine p_neF rfl rfl ?_) | (refine p_eqF rfl rfl ?_))); exact r_nil one_end)) | (apply d_split; exact rfl; exact rfl; exact rfl; exact rfl; exact rfl; intro hg; rotate_left; intro hg; rotate_right) | (apply d_all1; exact rfl; kernel_rfl; exact rfl; exact rfl) | (apply d_all2; exact rfl; kernel_rfl; exact rfl; exact rfl; exact rfl; exact rfl) | (apply d_all3; exact rfl; kernel_rfl; exact rfl; exact rfl; exact rfl; exact rfl; exact rfl; exact rfl))) | refine then_end (hH.sub tSub) ?_)
    all_goals refine e_end (res1 rfl tW) hH ⟨?_, rfl⟩ tTk
    all_goals (refine congrArg Value.bool ?_; clear hH; simp only [head_eq_iff, htk]; simp_all)

end Go.Proofs.YtiofekhdicfmoaaGreatDoor

namespace Go.Proofs.YtiofekhdicfmoaaGreatDoor
open Go Go.Hr
attribute [local irreducible] Go.wpList Go.Code.wp Go.Calls Go.Hr.CallsA Go.wpAnyH Go.callFunc Go.callMethod Go.Instr.typeAssert Go.Sem.run
set_option maxHeartbeats 4000000
set_option linter.all false

set_option maxRecDepth 8000
open Go.RowKit
theorem c16 (G : Glob) (h : Hp.HeadP) (ga : Option Addr) (gc : Nat) (hm : -9223372036854775808 ≤ h.minor ∧ h.minor ≤ 9223372036854775807) (hs : -9223372036854775808 ≤ h.status ∧ h.status ≤ 9223372036854775807)
    (hfl : h.fields.length ≤ 1099511627776) (hrs : h.reason.length ≤ 1099511627776) (hb : (textI h).length ≤ 1099511627776) :
    CallsA Tryz.prog 16 (List.toArray [headV h (slF h ga gc)]) (⟨ga, 2, h.fields.length, fldV h.fields, none⟩ :: GL G) [] (fun v H' => v = .tuple (List.toArray [.string ⟨(Hp.printP textI h).1.toArray⟩, .int .i64 ((Hp.printP textI h).2 : Int)]) ∧ H' = []) := by
  by_cases h100 : h.fields.length > 100
  · have k0 : decide ((100 : Int) < (h.fields.length : Int)) = true := by simp; omega
    have hp : Hp.printP textI h = ([], 4) := by unfold Hp.printP; rw [if_pos h100]
    rw [hp]
    refine callsA_of (args := [_]) Tryz.func16 rfl Tryz.ntmps16 (by simp) ?_
    intro w0 hH
    repeat' (first | refine stp ?_ | (refine g_guard ?_; (first | refine r_guardD rfl rfl rfl (fun hg hp => ?_) (fun hg hp => ?_) | refine r_guard rfl rfl rfl (fun hg => ?_) (fun hg => ?_))) | (refine g_load ?_; (first | (refine p_loadRF hH rfl rfl (by omega) tO ?_) | (refine p_loadSF hH rfl rfl tO ?_) | (refine p_loadSB hH rfl rfl tO ?_) | (refine p_loadRB hH rfl rfl (by omega) tO ?_) | (refine p_loadS hH rfl tW ?_))) | (refine g_call ?_; (first | (refine p_appendL hH rfl rfl (Reads1.own (v := .nilIface) (Sel.mem tSel)) rfl rfl rfl tO rfl (fun vb vc w hH => ?_)))) | refine n_buildSlice1 hH tE rfl rfl rfl rfl tN (fun g w hg hH => ?_) | (refine r_toInt Tryz.underlying183 Tryz.underlying3 rfl (wrap_small (by omega)) ?_) | (refine p_toTextS hH rfl rfl tO rfl ?_) | (refine p_neF rfl rfl ?_) | (refine p_eqF rfl rfl ?_) | (refine g_store ?_; (first | refine n_store hH rfl tE rfl rfl tN (fun w hH => ?_) | refine n_storeA hH rfl rfl rfl rfl rfl tN (fun w hH => ?_))) | refine n_alloc hH tW (fun g w hg hH => ?_) | (refine g_box ?_; (first | refine p_boxA hH rfl (fun g w hg hH => ?_) | refine p_boxI hH rfl (fun g w hg hH => ?_) | refine p_boxL hH rfl (fun g w hg hH => ?_))) | (refine g_cond ?_; (first | refine c_condD rfl (fun hc hp => ?_) (fun hc hp => ?_) | refine c_cond rfl (fun hc => ?_) (fun hc => ?_))) | refine d_start (P := Tryz.prog) hH (fun hH => ?_) | (refine g_any ?_; (first | (apply d_done; exact rfl; kernel_rfl) | (apply d_next; exact rfl; exact rfl; exact rfl; kernel_rfl; (first | (simp only [falses, setB]; exact rfl) | exact rfl); exact hH.sub tSub; (intro w hH; (repeat (first | refine stpO ?_ | (refine g_load ?_; (first | (refine p_loadRF hH rfl rfl (by omega) tO ?_) | (refine p_loadSF hH rfl rfl tO ?_) | (refine p_loadS hH rfl tW ?_))) | (refine p_neF rfl rfl ?_) | (refine p_eqF rfl rfl ?_))); exact r_nil one_end)) | (apply d_split; exact rfl; exact rfl; exact rfl; exact rfl; exact rfl; intro hg; rotate_left; intro hg; rotate_right) | (apply d_all1; exact rfl; kernel_rfl; exact rfl; exact rfl) | (apply d_all2; exact rfl; kernel_rfl; exact rfl; exact rfl; exact rfl; exact rfl) | (apply d_all3; exact rfl; kernel_rfl; exact rfl; exact rfl; exact rfl; exact rfl; exact rfl; exact rfl))) | refine then_end (hH.sub tSub) ?_)
    all_goals refine e_end (res2 rfl rfl rfl) hH ⟨rfl, rfl⟩ tTk
  · have k0 : decide ((100 : Int) < (h.fields.length : Int)) = false := by simp; omega
    have h43 := c43 G h.minor hm.1 hm.2
    have h43s := c43 G h.status hs.1 hs.2
    have l43 := Lib.itoa_length_le h.minor hm.1 hm.2
    have l43s := Lib.itoa_length_le h.status hs.1 hs.2
    have hbt : (lineI h).length + (Hp.fieldsT h.fields).length + 2 ≤ 1099511627776 := by have := hb; simp only [textI, List.length_append, List.length_cons, List.length_nil] at this; omega
    cases hr : h.request with
    | true =>
      have hline : lineI h = h.method ++ [32] ++ h.target ++ [32] ++ ([72,84,84,80,47,49,46] ++ Lib.itoa h.minor) ++ [13, 10] := by unfold lineI verI; rw [if_pos hr]
      have hlen : (lineI h).length = h.method.length + 1 + h.target.length + 1 + (7 + (Lib.itoa h.minor).length) + 2 := by rw [hline]; simp only [List.length_append, List.length_cons, List.length_nil]
      refine callsA_of (args := [_]) Tryz.func16 rfl Tryz.ntmps16 (by simp) ?_
      intro w0 hH
      repeat' (first | refine stp ?_ | (refine g_guard ?_; (first | refine r_guardD rfl rfl rfl (fun hg hp => ?_) (fun hg hp => ?_) | refine r_guard rfl rfl rfl (fun hg => ?_) (fun hg => ?_))) | (refine g_load ?_; (first | (refine p_loadRF hH rfl rfl (by omega) tO ?_) | (refine p_loadSF hH rfl rfl tO ?_) | (refine p_loadSB hH rfl rfl tO ?_) | (refine p_loadRB hH rfl rfl (by omega) tO ?_) | (refine p_loadS hH rfl tW ?_))) | (refine g_call ?_; (first | (refine k_call (g := 43) Tryz.func43 rfl rfl hH (EvL.cons (EvK.any rfl) EvL.nil) (h43) tTk (ReadsAll.skip ReadsAll.same) (fun v H1 w hT hH => ?_); obtain ⟨rfl, rfl⟩ := hT; simp only [List.nil_append, List.cons_append] at hH) | (refine k_call (g := 43) Tryz.func43 rfl rfl hH (EvL.cons (EvK.any rfl) EvL.nil) (h43s) tTk (ReadsAll.skip ReadsAll.same) (fun v H1 w hT hH => ?_); obtain ⟨rfl, rfl⟩ := hT; simp only [List.nil_append, List.cons_append] at hH) | (refine p_appendL hH rfl rfl (Reads1.own (v := .nilIface) (Sel.mem tSel)) rfl rfl rfl tO rfl (fun vb vc w hH => ?_)))) | refine n_buildSlice1 hH tE rfl rfl rfl rfl tN (fun g w hg hH => ?_) | (refine r_toInt Tryz.underlying183 Tryz.underlying3 rfl (wrap_small (by omega)) ?_) | (refine p_toTextS hH rfl rfl tO rfl ?_) | (refine p_neF rfl rfl ?_) | (refine p_eqF rfl rfl ?_) | (refine g_store ?_; (first | refine n_store hH rfl tE rfl rfl tN (fun w hH => ?_) | refine n_storeA hH rfl rfl rfl rfl rfl tN (fun w hH => ?_))) | refine n_alloc hH tW (fun g w hg hH => ?_) | (refine g_box ?_; (first | refine p_boxA hH rfl (fun g w hg hH => ?_) | refine p_boxI hH rfl (fun g w hg hH => ?_) | refine p_boxL hH rfl (fun g w hg hH => ?_))) | (refine g_cond ?_; (first | refine c_condD rfl (fun hc hp => ?_) (fun hc hp => ?_) | refine c_cond rfl (fun hc => ?_) (fun hc => ?_))) | refine d_start (P := Tryz.prog) hH (fun hH => ?_) | (refine g_any ?_; (first | (apply d_done; exact rfl; kernel_rfl) | (apply d_next; exact rfl; exact rfl; exact rfl; kernel_rfl; (first | (simp only [falses, setB]; exact rfl) | exact rfl); exact hH.sub tSub; (intro w hH; (repeat (first | refine stpO ?_ | (refine g_load ?_; (first | (refine p_loadRF hH rfl rfl (by omega) tO ?_) | (refine p_loadSF hH rfl rfl tO ?_) | (refine p_loadS hH rfl tW ?_))) | (refine p_neF rfl rfl ?_) | (refine p_eqF rfl rfl ?_))); exact r_nil one_end)) | (apply d_split; exact rfl; exact rfl; exact rfl; exact rfl; exact rfl; intro hg; rotate_left; intro hg; rotate_right) | (apply d_all1; exact rfl; kernel_rfl; exact rfl; exact rfl) | (apply d_all2; exact rfl; kernel_rfl; exact rfl; exact rfl; exact rfl; exact rfl) | (apply d_all3; exact rfl; kernel_rfl; exact rfl; exact rfl; exact rfl; exact rfl; exact rfl; exact rfl))) | refine then_end (hH.sub tSub) ?_)
      
      obtain ⟨g1, rfl⟩ : ∃ x, x = g := ⟨_, rfl⟩
      refine c_loopS (fun x : Nat × List UInt8 => [(1, bAt g1), (5, .string ⟨x.2.toArray⟩), (43, slF h ga gc), (44, .int .i64 (h.fields.length : Int)), (45, .int .i64 (x.1 : Int))])
        (fun x w => x.1 ≤ h.fields.length ∧ x.2 = lineI h ++ Hp.fieldsT (h.fields.take x.1) ∧ Holds w0 (bl []) w (⟨ga, 2, h.fields.length, fldV h.fields, none⟩ :: GL G) [.pt g1 24 [.bool h.request, .string ⟨h.method.toArray⟩, .string ⟨h.target.toArray⟩, .int .i64 h.minor, .int .i64 h.status, .string ⟨h.reason.toArray⟩, slF h ga gc]]) (fun x => h.fields.length - x.1) (0, h.method ++ [32] ++ h.target ++ [32] ++ ([72,84,84,80,47,49,46] ++ Lib.itoa h.minor) ++ [13, 10]) tAg ⟨by omega, by rw [hline]; simp [Hp.fieldsT], hH⟩ (fun x f w hI => ?_)
      clear hH
      obtain ⟨i, T⟩ := x
      obtain ⟨hi, hT, hH⟩ := hI
      dsimp only at hi hT hH ⊢
      have hTl := congrArg List.length hT
      simp only [List.length_append] at hTl
      by_cases hlt : i < h.fields.length
      · have k1 : decide ((i : Int) < (h.fields.length : Int)) = true := by simpa using hlt
        obtain ⟨ab, hab, _⟩ := (hH.ro _ (List.mem_cons_self ..)).1.2 (show 0 < h.fields.length by omega)
        simp only at hab
        subst hab
        have e1 : ((i : Int)).toNat = i := by omega
        have f1 := fieldsT_len h.fields (i + 1)
        rw [fieldsT_take h.fields i hlt] at f1
        simp only [List.length_append, List.length_cons, List.length_nil] at f1
        have f2 : (Hp.fieldsT (List.take i h.fields)).length + ((h.fields.getD (i : Int).toNat default).name.length + 2 + (h.fields.getD (i : Int).toNat default).value.length + 2) ≤ (Hp.fieldsT h.fields).length := by rw [e1]; omega
        repeat' (first | refine stp ?_ | (refine g_guard ?_; (first | refine r_guardD rfl rfl rfl (fun hg hp => ?_) (fun hg hp => ?_) | refine r_guard rfl rfl rfl (fun hg => ?_) (fun hg => ?_))) | (refine g_load ?_; (first | (refine p_loadRF hH rfl rfl (by omega) tO ?_) | (refine p_loadSF hH rfl rfl tO ?_) | (refine p_loadSB hH rfl rfl tO ?_) | (refine p_loadRB hH rfl rfl (by omega) tO ?_) | (refine p_loadS hH rfl tW ?_))) | (refine g_call ?_; (first | (refine p_appendL hH rfl rfl (Reads1.own (v := .nilIface) (Sel.mem tSel)) rfl rfl rfl tO rfl (fun vb vc w hH => ?_)))) | refine n_buildSlice1 hH tE rfl rfl rfl rfl tN (fun g w hg hH => ?_) | (refine r_toInt Tryz.underlying183 Tryz.underlying3 rfl (wrap_small (by omega)) ?_) | (refine p_toTextS hH rfl rfl tO rfl ?_) | (refine p_neF rfl rfl ?_) | (refine p_eqF rfl rfl ?_) | (refine g_store ?_; (first | refine n_store hH rfl tE rfl rfl tN (fun w hH => ?_) | refine n_storeA hH rfl rfl rfl rfl rfl tN (fun w hH => ?_))) | refine n_alloc hH tW (fun g w hg hH => ?_) | (refine g_box ?_; (first | refine p_boxA hH rfl (fun g w hg hH => ?_) | refine p_boxI hH rfl (fun g w hg hH => ?_) | refine p_boxL hH rfl (fun g w hg hH => ?_))) | (refine g_cond ?_; (first | refine c_condD rfl (fun hc hp => ?_) (fun hc hp => ?_) | refine c_cond rfl (fun hc => ?_) (fun hc => ?_))) | refine d_start (P := Tryz.prog) hH (fun hH => ?_) | (refine g_any ?_; (first | (apply d_done; exact rfl; kernel_rfl) | (apply d_next; exact rfl; exact rfl; exact rfl; kernel_rfl; (first | (simp only [falses, setB]; exact rfl) | exact rfl); exact hH.sub tSub; (intro w hH; (repeat (first | refine stpO ?_ | (refine g_load ?_; (first | (refine p_loadRF hH rfl rfl (by omega) tO ?_) | (refine p_loadSF hH rfl rfl tO ?_) | (refine p_loadS hH rfl tW ?_))) | (refine p_neF rfl rfl ?_) | (refine p_eqF rfl rfl ?_))); exact r_nil one_end)) | (apply d_split; exact rfl; exact rfl; exact rfl; exact rfl; exact rfl; intro hg; rotate_left; intro hg; rotate_right) | (apply d_all1; exact rfl; kernel_rfl; exact rfl; exact rfl) | (apply d_all2; exact rfl; kernel_rfl; exact rfl; exact rfl; exact rfl; exact rfl) | (apply d_all3; exact rfl; kernel_rfl; exact rfl; exact rfl; exact rfl; exact rfl; exact rfl; exact rfl))) | refine then_end (hH.sub tSub) ?_)
        all_goals (refine ⟨(i + 1, T ++ (h.fields.getD (i : Int).toNat default).name ++ [58, 32] ++ (h.fields.getD (i : Int).toNat default).value ++ [13, 10]), _, _, by simp only; omega, rfl, tAg, by simp only; omega, ?_, hH.sub tSub⟩
                   dsimp only
                   rw [e1, hT, fieldsT_take h.fields i hlt]; simp only [List.append_assoc])
      · have k1 : decide ((i : Int) < (h.fields.length : Int)) = false := by simpa using hlt
        have e : i = h.fields.length := by omega
        subst e
        rw [List.take_length] at hT hTl
        have hTT : T ++ [13, 10] = textI h := by rw [hT]; rfl
        have hpp : Hp.printP textI h = if Hp.parseP h.request (textI h) = (h, (textI h).length, 0) then (textI h, 0) else ([], 4) := by unfold Hp.printP; rw [if_neg h100]
        rw [← hTT] at hpp hb
        have hx100 := parse_few h.request (T ++ [13, 10])
        have h48a := fun ad bc => c48 h.request ad bc (T ++ [13, 10]) hb
        rw [hpp]
        generalize Hp.parseP h.request (T ++ [13, 10]) = X at *
        clear hpp
        obtain ⟨x, nn, ee⟩ := X
        dsimp only at hx100
        have h48 : ∀ ad bc, (T ++ [13, 10]).length ≤ bc → CallsA Tryz.prog 48 (List.toArray [.bool h.request, .slice (some ad) (T ++ [13, 10]).length bc]) [⟨some ad, 1, (T ++ [13, 10]).length, bytesV (T ++ [13, 10]), none⟩] [] (fun v H' => ∃ fa fc, v = .tuple (List.toArray [headV x (slF x fa fc), .int .i64 (nn : Int), .int .i64 (ee : Int)]) ∧ H' = [fldsO x (slF x fa fc)]) := h48a
        clear h48a
        have h49 := fun fa fc => c49 x h fa ga fc gc (by omega)
        repeat' (first | refine stp ?_ | (refine g_guard ?_; (first | refine r_guardD rfl rfl rfl (fun hg hp => ?_) (fun hg hp => ?_) | refine r_guard rfl rfl rfl (fun hg => ?_) (fun hg => ?_))) | (refine g_load ?_; (first | (refine p_loadRF hH rfl rfl (by omega) tO ?_) | (refine p_loadSF hH rfl rfl tO ?_) | (refine p_loadSB hH rfl rfl tO ?_) | (refine p_loadRB hH rfl rfl (by omega) tO ?_) | (refine p_loadS hH rfl tW ?_))) | (refine g_call ?_; (first | (refine k_call (g := 48) Tryz.func48 rfl rfl hH (EvL.cons (EvK.any rfl) (EvL.cons (EvK.any rfl) EvL.nil)) (h48 _ _ (by omega)) tTk (ReadsAll.cons (Reads1.fz (Sel.mem tSel) (by simp) (fun _ _ h => h)) ReadsAll.nil) (fun v H1 w hT hH => ?_); obtain ⟨xa, xc, rfl, rfl⟩ := hT; simp only [List.nil_append, List.cons_append] at hH) | (refine k_call (g := 49) Tryz.func49 rfl rfl hH (EvL.cons (EvK.any rfl) (EvL.cons (EvK.any rfl) EvL.nil)) (h49 _ _) tTk (ReadsAll.cons (.own (v := .nilIface) (Sel.mem tSel)) (ReadsAll.cons (.ro (by simp)) .nil)) (fun v H1 w hT hH => ?_); obtain ⟨rfl, rfl⟩ := hT; simp only [List.nil_append, List.cons_append] at hH) | (refine p_appendL hH rfl rfl (Reads1.own (v := .nilIface) (Sel.mem tSel)) rfl rfl rfl tO rfl (fun vb vc w hH => ?_)))) | refine n_buildSlice1 hH tE rfl rfl rfl rfl tN (fun g w hg hH => ?_) | (refine r_toInt Tryz.underlying183 Tryz.underlying3 rfl (wrap_small (by omega)) ?_) | (refine p_toTextS hH rfl rfl tO rfl ?_) | (refine p_neF rfl rfl ?_) | (refine p_eqF rfl rfl ?_) | (refine p_toBytes hH rfl (fun gz cz w hcz hH => ?_)) | (refine g_store ?_; (first | refine n_store hH rfl tE rfl rfl tN (fun w hH => ?_) | refine n_storeA hH rfl rfl rfl rfl rfl tN (fun w hH => ?_))) | refine n_alloc hH tW (fun g w hg hH => ?_) | (refine g_box ?_; (first | refine p_boxA hH rfl (fun g w hg hH => ?_) | refine p_boxI hH rfl (fun g w hg hH => ?_) | refine p_boxL hH rfl (fun g w hg hH => ?_))) | (refine g_cond ?_; (first | refine c_condD rfl (fun hc hp => ?_) (fun hc hp => ?_) | refine c_cond rfl (fun hc => ?_) (fun hc => ?_))) | refine d_start (P := Tryz.prog) hH (fun hH => ?_) | (refine g_any ?_; (first | (apply d_done; exact rfl; kernel_rfl) | (apply d_next; exact rfl; exact rfl; exact rfl; kernel_rfl; (first | (simp only [falses, setB]; exact rfl) | exact rfl); exact hH.sub tSub; (intro w hH; (repeat (first | refine stpO ?_ | (refine g_load ?_; (first | (refine p_loadRF hH rfl rfl (by omega) tO ?_) | (refine p_loadSF hH rfl rfl tO ?_) | (refine p_loadS hH rfl tW ?_))) | (refine p_neF rfl rfl ?_) | (refine p_eqF rfl rfl ?_))); exact r_nil one_end)) | (apply d_split; exact rfl; exact rfl; exact rfl; exact rfl; exact rfl; intro hg; rotate_left; intro hg; rotate_right) | (apply d_all1; exact rfl; kernel_rfl; exact rfl; exact rfl) | (apply d_all2; exact rfl; kernel_rfl; exact rfl; exact rfl; exact rfl; exact rfl) | (apply d_all3; exact rfl; kernel_rfl; exact rfl; exact rfl; exact rfl; exact rfl; exact rfl; exact rfl))) | refine then_end (hH.sub tSub) ?_)
        all_goals first
          | (rw [if_neg (fun e => by simp only [Prod.mk.injEq] at e; obtain ⟨e1, e2, e3⟩ := e; first | (rw [e3] at hp; exact hp rfl) | (rw [e2] at hp; exact hp rfl) | (rw [e1] at hc; simp at hc))]; exact e_end (H1 := []) (res2 rfl rfl rfl) hH ⟨rfl, rfl⟩ tTk)
          | (have q1 : x = h := by simpa using hc
             have q2 : nn = (T ++ [13, 10]).length := by omega
             have q3 : ee = 0 := by omega
             rw [if_pos (by rw [q1, q2, q3])]; exact e_end (H1 := []) (res2 rfl rfl rfl) hH ⟨rfl, rfl⟩ tTk)

    | false =>
      have hline : lineI h = ([72,84,84,80,47,49,46] ++ Lib.itoa h.minor) ++ [32] ++ Lib.itoa h.status ++ [32] ++ h.reason ++ [13, 10] := by unfold lineI verI; rw [if_neg (by rw [hr]; decide)]
      have hlen : (lineI h).length = (7 + (Lib.itoa h.minor).length) + 1 + (Lib.itoa h.status).length + 1 + h.reason.length + 2 := by rw [hline]; simp only [List.length_append, List.length_cons, List.length_nil]
      refine callsA_of (args := [_]) Tryz.func16 rfl Tryz.ntmps16 (by simp) ?_
      intro w0 hH
      repeat' (first | refine stp ?_ | (refine g_guard ?_; (first | refine r_guardD rfl rfl rfl (fun hg hp => ?_) (fun hg hp => ?_) | refine r_guard rfl rfl rfl (fun hg => ?_) (fun hg => ?_))) | (refine g_load ?_; (first | (refine p_loadRF hH rfl rfl (by omega) tO ?_) | (refine p_loadSF hH rfl rfl tO ?_) | (refine p_loadSB hH rfl rfl tO ?_) | (refine p_loadRB hH rfl rfl (by omega) tO ?_) | (refine p_loadS hH rfl tW ?_))) | (refine g_call ?_; (first | (refine k_call (g := 43) Tryz.func43 rfl rfl hH (EvL.cons (EvK.any rfl) EvL.nil) (h43) tTk (ReadsAll.skip ReadsAll.same) (fun v H1 w hT hH => ?_); obtain ⟨rfl, rfl⟩ := hT; simp only [List.nil_append, List.cons_append] at hH) | (refine k_call (g := 43) Tryz.func43 rfl rfl hH (EvL.cons (EvK.any rfl) EvL.nil) (h43s) tTk (ReadsAll.skip ReadsAll.same) (fun v H1 w hT hH => ?_); obtain ⟨rfl, rfl⟩ := hT; simp only [List.nil_append, List.cons_append] at hH) | (refine p_appendL hH rfl rfl (Reads1.own (v := .nilIface) (Sel.mem tSel)) rfl rfl rfl tO rfl (fun vb vc w hH => ?_)))) | refine n_buildSlice1 hH tE rfl rfl rfl rfl tN (fun g w hg hH => ?_) | (refine r_toInt Tryz.underlying183 Tryz.underlying3 rfl (wrap_small (by omega)) ?_) | (refine p_toTextS hH rfl rfl tO rfl ?_) | (refine p_neF rfl rfl ?_) | (refine p_eqF rfl rfl ?_) | (refine g_store ?_; (first | refine n_store hH rfl tE rfl rfl tN (fun w hH => ?_) | refine n_storeA hH rfl rfl rfl rfl rfl tN (fun w hH => ?_))) | refine n_alloc hH tW (fun g w hg hH => ?_) | (refine g_box ?_; (first | refine p_boxA hH rfl (fun g w hg hH => ?_) | refine p_boxI hH rfl (fun g w hg hH => ?_) | refine p_boxL hH rfl (fun g w hg hH => ?_))) | (refine g_cond ?_; (first | refine c_condD rfl (fun hc hp => ?_) (fun hc hp => ?_) | refine c_cond rfl (fun hc => ?_) (fun hc => ?_))) | refine d_start (P := Tryz.prog) hH (fun hH => ?_) | (refine g_any ?_; (first | (apply d_done; exact rfl; kernel_rfl) | (apply d_next; exact rfl; exact rfl; exact rfl; kernel_rfl; (first | (simp only [falses, setB]; exact rfl) | exact rfl); exact hH.sub tSub; (intro w hH; (repeat (first | refine stpO ?_ | (refine g_load ?_; (first | (refine p_loadRF hH rfl rfl (by omega) tO ?_) | (refine p_loadSF hH rfl rfl tO ?_) | (refine p_loadS hH rfl tW ?_))) | (refine p_neF rfl rfl ?_) | (refine p_eqF rfl rfl ?_))); exact r_nil one_end)) | (apply d_split; exact rfl; exact rfl; exact rfl; exact rfl; exact rfl; intro hg; rotate_left; intro hg; rotate_right) | (apply d_all1; exact rfl; kernel_rfl; exact rfl; exact rfl) | (apply d_all2; exact rfl; kernel_rfl; exact rfl; exact rfl; exact rfl; exact rfl) | (apply d_all3; exact rfl; kernel_rfl; exact rfl; exact rfl; exact rfl; exact rfl; exact rfl; exact rfl))) | refine then_end (hH.sub tSub) ?_)
      
      obtain ⟨g1, rfl⟩ : ∃ x, x = g := ⟨_, rfl⟩
      refine c_loopS (fun x : Nat × List UInt8 => [(1, bAt g1), (5, .string ⟨x.2.toArray⟩), (43, slF h ga gc), (44, .int .i64 (h.fields.length : Int)), (45, .int .i64 (x.1 : Int))])
        (fun x w => x.1 ≤ h.fields.length ∧ x.2 = lineI h ++ Hp.fieldsT (h.fields.take x.1) ∧ Holds w0 (bl []) w (⟨ga, 2, h.fields.length, fldV h.fields, none⟩ :: GL G) [.pt g1 24 [.bool h.request, .string ⟨h.method.toArray⟩, .string ⟨h.target.toArray⟩, .int .i64 h.minor, .int .i64 h.status, .string ⟨h.reason.toArray⟩, slF h ga gc]]) (fun x => h.fields.length - x.1) (0, ([72,84,84,80,47,49,46] ++ Lib.itoa h.minor) ++ [32] ++ Lib.itoa h.status ++ [32] ++ h.reason ++ [13, 10]) tAg ⟨by omega, by rw [hline]; simp [Hp.fieldsT], hH⟩ (fun x f w hI => ?_)
      clear hH
      obtain ⟨i, T⟩ := x
      obtain ⟨hi, hT, hH⟩ := hI
      dsimp only at hi hT hH ⊢
      have hTl := congrArg List.length hT
      simp only [List.length_append] at hTl
      by_cases hlt : i < h.fields.length
      · have k1 : decide ((i : Int) < (h.fields.length : Int)) = true := by simpa using hlt
        obtain ⟨ab, hab, _⟩ := (hH.ro _ (List.mem_cons_self ..)).1.2 (show 0 < h.fields.length by omega)
        simp only at hab
        subst hab
        have e1 : ((i : Int)).toNat = i := by omega
        have f1 := fieldsT_len h.fields (i + 1)
        rw [fieldsT_take h.fields i hlt] at f1
        simp only [List.length_append, List.length_cons, List.length_nil] at f1
        have f2 : (Hp.fieldsT (List.take i h.fields)).length + ((h.fields.getD (i : Int).toNat default).name.length + 2 + (h.fields.getD (i : Int).toNat default).value.length + 2) ≤ (Hp.fieldsT h.fields).length := by rw [e1]; omega
        repeat' (first | refine stp ?_ | (refine g_guard ?_; (first | refine r_guardD rfl rfl rfl (fun hg hp => ?_) (fun hg hp => ?_) | refine r_guard rfl rfl rfl (fun hg => ?_) (fun hg => ?_))) | (refine g_load ?_; (first | (refine p_loadRF hH rfl rfl (by omega) tO ?_) | (refine p_loadSF hH rfl rfl tO ?_) | (refine p_loadSB hH rfl rfl tO ?_) | (refine p_loadRB hH rfl rfl (by omega) tO ?_) | (refine p_loadS hH rfl tW ?_))) | (refine g_call ?_; (first | (refine p_appendL hH rfl rfl (Reads1.own (v := .nilIface) (Sel.mem tSel)) rfl rfl rfl tO rfl (fun vb vc w hH => ?_)))) | refine n_buildSlice1 hH tE rfl rfl rfl rfl tN (fun g w hg hH => ?_) | (refine r_toInt Tryz.underlying183 Tryz.underlying3 rfl (wrap_small (by omega)) ?_) | (refine p_toTextS hH rfl rfl tO rfl ?_) | (refine p_neF rfl rfl ?_) | (refine p_eqF rfl rfl ?_) | (refine g_store ?_; (first | refine n_store hH rfl tE rfl rfl tN (fun w hH => ?_) | refine n_storeA hH rfl rfl rfl rfl rfl tN (fun w hH => ?_))) | refine n_alloc hH tW (fun g w hg hH => ?_) | (refine g_box ?_; (first | refine p_boxA hH rfl (fun g w hg hH => ?_) | refine p_boxI hH rfl (fun g w hg hH => ?_) | refine p_boxL hH rfl (fun g w hg hH => ?_))) | (refine g_cond ?_; (first | refine c_condD rfl (fun hc hp => ?_) (fun hc hp => ?_) | refine c_cond rfl (fun hc => ?_) (fun hc => ?_))) | refine d_start (P := Tryz.prog) hH (fun hH => ?_) | (refine g_any ?_; (first | (apply d_done; exact rfl; kernel_rfl) | (apply d_next; exact rfl; exact rfl; exact rfl; kernel_rfl; (first | (simp only [falses, setB]; exact rfl) | exact rfl); exact hH.sub tSub; (intro w hH; (repeat (first | refine stpO ?_ | (refine g_load ?_; (first | (refine p_loadRF hH rfl rfl (by omega) tO ?_) | (refine p_loadSF hH rfl rfl tO ?_) | (refine p_loadS hH rfl tW ?_))) | (refine p_neF rfl rfl ?_) | (refine p_eqF rfl rfl ?_))); exact r_nil one_end)) | (apply d_split; exact rfl; exact rfl; exact rfl; exact rfl; exact rfl; intro hg; rotate_left; intro hg; rotate_right) | (apply d_all1; exact rfl; kernel_rfl; exact rfl; exact rfl) | (apply d_all2; exact rfl; kernel_rfl; exact rfl; exact rfl; exact rfl; exact rfl) | (apply d_all3; exact rfl; kernel_rfl; exact rfl; exact rfl; exact rfl; exact rfl; exact rfl; exact rfl))) | refine then_end (hH.sub tSub) ?_)
        all_goals (refine ⟨(i + 1, T ++ (h.fields.getD (i : Int).toNat default).name ++ [58, 32] ++ (h.fields.getD (i : Int).toNat default).value ++ [13, 10]), _, _, by simp only; omega, rfl, tAg, by simp only; omega, ?_, hH.sub tSub⟩
                   dsimp only
                   rw [e1, hT, fieldsT_take h.fields i hlt]; simp only [List.append_assoc])
      · have k1 : decide ((i : Int) < (h.fields.length : Int)) = false := by simpa using hlt
        have e : i = h.fields.length := by omega
        subst e
        rw [List.take_length] at hT hTl
        have hTT : T ++ [13, 10] = textI h := by rw [hT]; rfl
        have hpp : Hp.printP textI h = if Hp.parseP h.request (textI h) = (h, (textI h).length, 0) then (textI h, 0) else ([], 4) := by unfold Hp.printP; rw [if_neg h100]
        rw [← hTT] at hpp hb
        have hx100 := parse_few h.request (T ++ [13, 10])
        have h48a := fun ad bc => c48 h.request ad bc (T ++ [13, 10]) hb
        rw [hpp]
        generalize Hp.parseP h.request (T ++ [13, 10]) = X at *
        clear hpp
        obtain ⟨x, nn, ee⟩ := X
        dsimp only at hx100
        have h48 : ∀ ad bc, (T ++ [13, 10]).length ≤ bc → CallsA Tryz.prog 48 (List.toArray [.bool h.request, .slice (some ad) (T ++ [13, 10]).length bc]) [⟨some ad, 1, (T ++ [13, 10]).length, bytesV (T ++ [13, 10]), none⟩] [] (fun v H' => ∃ fa fc, v = .tuple (List.toArray [headV x (slF x fa fc), .int .i64 (nn : Int), .int .i64 (ee : Int)]) ∧ H' = [fldsO x (slF x fa fc)]) := h48a
        clear h48a
        have h49 := fun fa fc => c49 x h fa ga fc gc (by omega)
        repeat' (first | refine stp ?_ | (refine g_guard ?_; (first | refine r_guardD rfl rfl rfl (fun hg hp => ?_) (fun hg hp => ?_) | refine r_guard rfl rfl rfl (fun hg => ?_) (fun hg => ?_))) | (refine g_load ?_; (first | (refine p_loadRF hH rfl rfl (by omega) tO ?_) | (refine p_loadSF hH rfl rfl tO ?_) | (refine p_loadSB hH rfl rfl tO ?_) | (refine p_loadRB hH rfl rfl (by omega) tO ?_) | (refine p_loadS hH rfl tW ?_))) | (refine g_call ?_; (first | (refine k_call (g := 48) Tryz.func48 rfl rfl hH (EvL.cons (EvK.any rfl) (EvL.cons (EvK.any rfl) EvL.nil)) (h48 _ _ (by omega)) tTk (ReadsAll.cons (Reads1.fz (Sel.mem tSel) (by simp) (fun _ _ h => h)) ReadsAll.nil) (fun v H1 w hT hH => ?_); obtain ⟨xa, xc, rfl, rfl⟩ := hT; simp only [List.nil_append, List.cons_append] at hH) | (refine k_call (g := 49) Tryz.func49 rfl rfl hH (EvL.cons (EvK.any rfl) (EvL.cons (EvK.any rfl) EvL.nil)) (h49 _ _) tTk (ReadsAll.cons (.own (v := .nilIface) (Sel.mem tSel)) (ReadsAll.cons (.ro (by simp)) .nil)) (fun v H1 w hT hH => ?_); obtain ⟨rfl, rfl⟩ := hT; simp only [List.nil_append, List.cons_append] at hH) | (refine p_appendL hH rfl rfl (Reads1.own (v := .nilIface) (Sel.mem tSel)) rfl rfl rfl tO rfl (fun vb vc w hH => ?_)))) | refine n_buildSlice1 hH tE rfl rfl rfl rfl tN (fun g w hg hH => ?_) | (refine r_toInt Tryz.underlying183 Tryz.underlying3 rfl (wrap_small (by omega)) ?_) | (refine p_toTextS hH rfl rfl tO rfl ?_) | (refine p_neF rfl rfl ?_) | (refine p_eqF rfl rfl ?_) | (refine p_toBytes hH rfl (fun gz cz w hcz hH => ?_)) | (refine g_store ?_; (first | refine n_store hH rfl tE rfl rfl tN (fun w hH => ?_) | refine n_storeA hH rfl rfl rfl rfl rfl tN (fun w hH => ?_))) | refine n_alloc hH tW (fun g w hg hH => ?_) | (refine g_box ?_; (first | refine p_boxA hH rfl (fun g w hg hH => ?_) | refine p_boxI hH rfl (fun g w hg hH => ?_) | refine p_boxL hH rfl (fun g w hg hH => ?_))) | (refine g_cond ?_; (first | refine c_condD rfl (fun hc hp => ?_) (fun hc hp => ?_) | refine c_cond rfl (fun hc => ?_) (fun hc => ?_))) | refine d_start (P := Tryz.prog) hH (fun hH => ?_) | (refine g_any ?_; (first | (apply d_done; exact rfl; kernel_rfl) | (apply d_next; exact rfl; exact rfl; exact rfl; kernel_rfl; (first | (simp only [falses, setB]; exact rfl) | exact rfl); exact hH.sub tSub; (intro w hH; (repeat (first | refine stpO ?_ | (refine g_load ?_; (first | (refine p_loadRF hH rfl rfl (by omega) tO ?_) | (refine p_loadSF hH rfl rfl tO ?_) | (refine p_loadS hH rfl tW ?_))) | (refine p_neF rfl rfl ?_) | (refine p_eqF rfl rfl ?_))); exact r_nil one_end)) | (apply d_split; exact rfl; exact rfl; exact rfl; exact rfl; exact rfl; intro hg; rotate_left; intro hg; rotate_right) | (apply d_all1; exact rfl; kernel_rfl; exact rfl; exact rfl) | (apply d_all2; exact rfl; kernel_rfl; exact rfl; exact rfl; exact rfl; exact rfl) | (apply d_all3; exact rfl; kernel_rfl; exact rfl; exact rfl; exact rfl; exact rfl; exact rfl; exact rfl))) | refine then_end (hH.sub tSub) ?_)
        all_goals first
          | (rw [if_neg (fun e => by simp only [Prod.mk.injEq] at e; obtain ⟨e1, e2, e3⟩ := e; first | (rw [e3] at hp; exact hp rfl) | (rw [e2] at hp; exact hp rfl) | (rw [e1] at hc; simp at hc))]; exact e_end (H1 := []) (res2 rfl rfl rfl) hH ⟨rfl, rfl⟩ tTk)
          | (have q1 : x = h := by simpa using hc
             have q2 : nn = (T ++ [13, 10]).length := by omega
             have q3 : ee = 0 := by omega
             rw [if_pos (by rw [q1, q2, q3])]; exact e_end (H1 := []) (res2 rfl rfl rfl) hH ⟨rfl, rfl⟩ tTk)


end Go.Proofs.YtiofekhdicfmoaaGreatDoor

namespace Go.Proofs.YtiofekhdicfmoaaGreatDoor
open Go Go.Hr
attribute [local irreducible] Go.wpList Go.Code.wp Go.Calls Go.Hr.CallsA Go.wpAnyH Go.callFunc Go.callMethod Go.Instr.typeAssert Go.Sem.run
set_option maxHeartbeats 4000000
set_option linter.all false

set_option maxRecDepth 8000
open Go.RowKit
theorem print_cases (h : Hp.HeadP) : Hp.printP textI h = ([], 4) ∨ (Hp.printP textI h = (textI h, 0) ∧ Hp.parseP h.request (textI h) = (h, (textI h).length, 0)) := by
  unfold Hp.printP
  split
  · exact .inl rfl
  · split
    · rename_i hp; exact .inr ⟨rfl, hp⟩
    · exact .inl rfl
theorem c3 (G : Glob) (h : Hp.HeadP) (ga : Option Addr) (gc : Nat) (hm : -9223372036854775808 ≤ h.minor ∧ h.minor ≤ 9223372036854775807) (hs : -9223372036854775808 ≤ h.status ∧ h.status ≤ 9223372036854775807)
    (hfl : h.fields.length ≤ 1099511627776) (hrs : h.reason.length ≤ 1099511627776) (hb : (textI h).length ≤ 1099511627776) :
    CallsA Tryz.prog 3 (List.toArray [headV h (slF h ga gc)]) (⟨ga, 2, h.fields.length, fldV h.fields, none⟩ :: GL G) [] (fun v H' => v = .bool true ∧ H' = []) := by
  have h15 := c15 G h ga gc hm hs hfl hb
  have h16 := c16 G h ga gc hm hs hfl hrs hb
  have h17 := c17 G
  rcases print_cases h with hp | ⟨hp, hx⟩
  · rw [hp] at h15 h16
    refine callsA_of (args := [_]) Tryz.func3 rfl Tryz.ntmps3 (by simp) ?_
    intro w0 hH
    repeat' (first | refine stp ?_ | (refine g_guard ?_; (first | refine r_guardD rfl rfl rfl (fun hg hp => ?_) (fun hg hp => ?_) | refine r_guard rfl rfl rfl (fun hg => ?_) (fun hg => ?_))) | (refine g_load ?_; (first | (refine p_loadRF hH rfl rfl (by omega) tO ?_) | (refine p_loadSF hH rfl rfl tO ?_) | (refine p_loadSB hH rfl rfl tO ?_) | (refine p_loadRB hH rfl rfl (by omega) tO ?_) | (refine p_loadS hH rfl tW ?_))) | (refine g_call ?_; (first | (refine k_call (g := 15) Tryz.func15 rfl rfl hH (EvL.cons (EvK.any rfl) EvL.nil) (h15) tTk ReadsAll.same (fun v H1 w hT hH => ?_); obtain ⟨rfl, rfl⟩ := hT; simp only [List.nil_append, List.cons_append] at hH) | (refine k_call (g := 16) Tryz.func16 rfl rfl hH (EvL.cons (EvK.any rfl) EvL.nil) (h16) tTk ReadsAll.same (fun v H1 w hT hH => ?_); obtain ⟨rfl, rfl⟩ := hT; simp only [List.nil_append, List.cons_append] at hH) | (refine k_call (g := 17) Tryz.func17 rfl rfl hH EvL.nil (h17) tTk (ReadsAll.skip ReadsAll.same) (fun v H1 w hT hH => ?_); obtain ⟨rfl, rfl⟩ := hT; simp only [List.nil_append, List.cons_append] at hH) | (refine p_appendL hH rfl rfl (Reads1.own (v := .nilIface) (Sel.mem tSel)) rfl rfl rfl tO rfl (fun vb vc w hH => ?_)))) | refine n_buildSlice1 hH tE rfl rfl rfl rfl tN (fun g w hg hH => ?_) | (refine r_toInt Tryz.underlying183 Tryz.underlying3 rfl (wrap_small (by omega)) ?_) | (refine p_toTextS hH rfl rfl tO rfl ?_) | (refine p_neF rfl rfl ?_) | (refine p_eqF rfl rfl ?_) | (refine g_store ?_; (first | refine n_store hH rfl tE rfl rfl tN (fun w hH => ?_) | refine n_storeA hH rfl rfl rfl rfl rfl tN (fun w hH => ?_))) | refine n_alloc hH tW (fun g w hg hH => ?_) | (refine g_box ?_; (first | refine p_boxA hH rfl (fun g w hg hH => ?_) | refine p_boxI hH rfl (fun g w hg hH => ?_) | refine p_boxL hH rfl (fun g w hg hH => ?_))) | (refine g_cond ?_; (first | refine c_condD rfl (fun hc hp => ?_) (fun hc hp => ?_) | refine c_cond rfl (fun hc => ?_) (fun hc => ?_))) | refine d_start (P := Tryz.prog) hH (fun hH => ?_) | (refine g_any ?_; (first | (apply d_done; exact rfl; kernel_rfl) | (apply d_next; exact rfl; exact rfl; exact rfl; kernel_rfl; (first | (simp only [falses, setB]; exact rfl) | exact rfl); exact hH.sub tSub; (intro w hH; (repeat (first | refine stpO ?_ | (refine g_load ?_; (first | (refine p_loadRF hH rfl rfl (by omega) tO ?_) | (refine p_loadSF hH rfl rfl tO ?_) | (refine p_loadS hH rfl tW ?_))) | (refine p_neF rfl rfl ?_) | (refine p_eqF rfl rfl ?_))); exact r_nil one_end)) | (apply d_split; exact rfl; exact rfl; exact rfl; exact rfl; exact rfl; intro hg; rotate_left; intro hg; rotate_right) | (apply d_all1; exact rfl; kernel_rfl; exact rfl; exact rfl) | (apply d_all2; exact rfl; kernel_rfl; exact rfl; exact rfl; exact rfl; exact rfl) | (apply d_all3; exact rfl; kernel_rfl; exact rfl; exact rfl; exact rfl; exact rfl; exact rfl; exact rfl))) | refine then_end (hH.sub tSub) ?_)
    all_goals refine e_end (res1 rfl tW) hH ⟨?_, rfl⟩ tTk
    all_goals rfl
  · rw [hp] at h15 h16
    have h18 : ∀ A bc, CallsA Tryz.prog 18 (List.toArray [.bool h.request, .slice A (textI h).length bc]) (⟨A, 1, (textI h).length, bytesV (textI h), none⟩ :: GL G) [] (fun v H' => ∃ fa fc, v = .tuple (List.toArray [headV h (slF h fa fc), .int .i64 ((textI h).length : Int), .int .i64 0]) ∧ H' = [fldsO h (slF h fa fc)]) := fun A bc => by
      have := c18 G h.request A bc (textI h) hb
      rw [hx] at this
      exact this
    have h19 := fun fa fc => c19 h h fa ga fc gc hfl
    have k0 : decide ((((textI h).length : Nat) : Int) = ((textI h).length : Int)) = true := by simp
    have k2 : decide (textI h ≠ textI h) = false := by simp
    have k3 : decide (h = h) = true := by simp
    rw [k3] at h19
    refine callsA_of (args := [_]) Tryz.func3 rfl Tryz.ntmps3 (by simp) ?_
    intro w0 hH
    repeat' (first | refine stp ?_ | (refine g_guard ?_; (first | refine r_guardD rfl rfl rfl (fun hg hp => ?_) (fun hg hp => ?_) | refine r_guard rfl rfl rfl (fun hg => ?_) (fun hg => ?_))) | (refine g_load ?_; (first | (refine p_loadRF hH rfl rfl (by omega) tO ?_) | (refine p_loadSF hH rfl rfl tO ?_) | (refine p_loadSB hH rfl rfl tO ?_) | (refine p_loadRB hH rfl rfl (by omega) tO ?_) | (refine p_loadS hH rfl tW ?_))) | (refine g_call ?_; (first | (refine k_call (g := 15) Tryz.func15 rfl rfl hH (EvL.cons (EvK.any rfl) EvL.nil) (h15) tTk ReadsAll.same (fun v H1 w hT hH => ?_); obtain ⟨rfl, rfl⟩ := hT; simp only [List.nil_append, List.cons_append] at hH) | (refine k_call (g := 16) Tryz.func16 rfl rfl hH (EvL.cons (EvK.any rfl) EvL.nil) (h16) tTk ReadsAll.same (fun v H1 w hT hH => ?_); obtain ⟨rfl, rfl⟩ := hT; simp only [List.nil_append, List.cons_append] at hH) | (refine k_call (g := 17) Tryz.func17 rfl rfl hH EvL.nil (h17) tTk (ReadsAll.skip ReadsAll.same) (fun v H1 w hT hH => ?_); obtain ⟨rfl, rfl⟩ := hT; simp only [List.nil_append, List.cons_append] at hH) | (refine k_call (g := 18) Tryz.func18 rfl rfl hH (EvL.cons (EvK.any rfl) (EvL.cons (EvK.any rfl) EvL.nil)) (h18 _ _) tTk (ReadsAll.cons (Reads1.fz (Sel.mem tSel) (by simp) (fun _ _ h => h)) (ReadsAll.skip ReadsAll.same)) (fun v H1 w hT hH => ?_); obtain ⟨xa, xc, rfl, rfl⟩ := hT; simp only [List.nil_append, List.cons_append] at hH) | (refine k_call (g := 19) Tryz.func19 rfl rfl hH (EvL.cons (EvK.any rfl) (EvL.cons (EvK.any rfl) EvL.nil)) (h19 _ _) tTk (ReadsAll.cons (.own (v := .nilIface) (Sel.mem tSel)) (ReadsAll.cons (.ro (by simp)) .nil)) (fun v H1 w hT hH => ?_); obtain ⟨rfl, rfl⟩ := hT; simp only [List.nil_append, List.cons_append] at hH) | (refine p_appendL hH rfl rfl (Reads1.own (v := .nilIface) (Sel.mem tSel)) rfl rfl rfl tO rfl (fun vb vc w hH => ?_)))) | refine n_buildSlice1 hH tE rfl rfl rfl rfl tN (fun g w hg hH => ?_) | (refine r_toInt Tryz.underlying183 Tryz.underlying3 rfl (wrap_small (by omega)) ?_) | (refine p_toTextS hH rfl rfl tO rfl ?_) | (refine p_neF rfl rfl ?_) | (refine p_eqF rfl rfl ?_) | (refine p_toBytes hH rfl (fun gz cz w hcz hH => ?_)) | (refine g_store ?_; (first | refine n_store hH rfl tE rfl rfl tN (fun w hH => ?_) | refine n_storeA hH rfl rfl rfl rfl rfl tN (fun w hH => ?_))) | refine n_alloc hH tW (fun g w hg hH => ?_) | (refine g_box ?_; (first | refine p_boxA hH rfl (fun g w hg hH => ?_) | refine p_boxI hH rfl (fun g w hg hH => ?_) | refine p_boxL hH rfl (fun g w hg hH => ?_))) | (refine g_cond ?_; (first | refine c_condD rfl (fun hc hp => ?_) (fun hc hp => ?_) | refine c_cond rfl (fun hc => ?_) (fun hc => ?_))) | refine d_start (P := Tryz.prog) hH (fun hH => ?_) | (refine g_any ?_; (first | (apply d_done; exact rfl; kernel_rfl) | (apply d_next; exact rfl; exact rfl; exact rfl; kernel_rfl; (first | (simp only [falses, setB]; exact rfl) | exact rfl); exact hH.sub tSub; (intro w hH; (repeat (first | refine stpO ?_ | (refine g_load ?_; (first | (refine p_loadRF hH rfl rfl (by omega) tO ?_) | (refine p_loadSF hH rfl rfl tO ?_) | (refine p_loadS hH rfl tW ?_))) | (refine p_neF rfl rfl ?_) | (refine p_eqF rfl rfl ?_))); exact r_nil one_end)) | (apply d_split; exact rfl; exact rfl; exact rfl; exact rfl; exact rfl; intro hg; rotate_left; intro hg; rotate_right) | (apply d_all1; exact rfl; kernel_rfl; exact rfl; exact rfl) | (apply d_all2; exact rfl; kernel_rfl; exact rfl; exact rfl; exact rfl; exact rfl) | (apply d_all3; exact rfl; kernel_rfl; exact rfl; exact rfl; exact rfl; exact rfl; exact rfl; exact rfl))) | refine then_end (hH.sub tSub) ?_)
    all_goals refine e_end (res1 rfl tW) hH ⟨?_, rfl⟩ tTk
    all_goals rfl

end Go.Proofs.YtiofekhdicfmoaaGreatDoor
