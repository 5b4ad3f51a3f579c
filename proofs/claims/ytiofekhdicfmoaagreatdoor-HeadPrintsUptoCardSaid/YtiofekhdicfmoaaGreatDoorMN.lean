import Derived.Test.YtiofekhdicfmoaaGreatDoorMM
import Derived.Test.YtiofekhdicfmoaaGreatDoorMI
import Derived.KernelRfl
set_option linter.all false
namespace Go.Proofs.YtiofekhdicfmoaaGreatDoor
open Go Go.Hr
attribute [local irreducible] Go.wpList Go.Code.wp Go.Calls Go.Hr.CallsA Go.wpAnyH Go.callFunc Go.callMethod Go.Instr.typeAssert Go.Sem.run
set_option maxHeartbeats 4000000
set_option linter.all false

set_option maxRecDepth 8000
open Go.RowKit
abbrev fieldTV (x : Hp.FieldP × Nat) : Value := .tuple (List.toArray [.agg (List.toArray [.string ⟨x.1.name.toArray⟩, .string ⟨x.1.value.toArray⟩]), .int .i64 (x.2 : Int)])
theorem trimP_le (s : List UInt8) : (Hp.trimP s).length ≤ s.length := by
  unfold Hp.trimP
  have a := trimL_le (Hp.trimL s).reverse
  have b := trimL_le s
  simp at a ⊢; omega
theorem c79 (x : UInt8) (r : List UInt8) (hs : (x :: r).length ≤ 1099511627776) : CallsA Tryz.prog 79 (List.toArray [.string ⟨(x :: r).toArray⟩]) [] [] (fun v H' => v = fieldTV (Hp.fieldR (x :: r)) ∧ H' = []) := by
  have h105 := c105 (x :: r) 58 hs
  unfold Hp.cut2R at h105
  cases hb : Hp.blankP x with
  | true =>
    have e : Hp.fieldR (x :: r) = (⟨[], []⟩, 82) := by simp [Hp.fieldR, hb]
    rw [e]
    have h107 := c107 ((x :: r).getD (Int.toNat 0) 0)
    have e0 : Hp.blankP ((x :: r).getD (Int.toNat 0) 0) = true := hb
    rw [e0] at h107
    refine callsA_of (args := [_]) Tryz.func79 rfl Tryz.ntmps79 (by simp) ?_
    intro w0 hH
    repeat' (first | refine stp ?_ | (refine g_guard ?_; (first | refine r_guardD rfl rfl rfl (fun hg hp => ?_) (fun hg hp => ?_) | refine r_guard rfl rfl rfl (fun hg => ?_) (fun hg => ?_))) | (refine g_load ?_; (first | (refine p_loadRF hH rfl rfl (by omega) tO ?_) | (refine p_loadSF hH rfl rfl tO ?_) | (refine p_loadSB hH rfl rfl tO ?_) | (refine p_loadRB hH rfl rfl (by omega) tO ?_) | (refine p_loadS hH rfl tW ?_))) | (refine g_call ?_; (first | (refine k_call (g := 107) Tryz.func107 rfl rfl hH (EvL.cons (EvK.any rfl) EvL.nil) (h107) tTk tRd (fun v H1 w hT hH => ?_); obtain ⟨rfl, rfl⟩ := hT; simp only [List.nil_append, List.cons_append] at hH) | (refine p_appendL hH rfl rfl (Reads1.own (v := .nilIface) (Sel.mem tSel)) rfl rfl rfl tO rfl (fun vb vc w hH => ?_)))) | refine n_buildSlice1 hH tE rfl rfl rfl rfl tN (fun g w hg hH => ?_) | (refine r_toInt Tryz.underlying183 Tryz.underlying3 rfl (wrap_small (by omega)) ?_) | (refine p_toTextS hH rfl rfl tO rfl ?_) | (refine p_neF rfl rfl ?_) | (refine p_eqF rfl rfl ?_) | (refine g_store ?_; (first | refine n_store hH rfl tE rfl rfl tN (fun w hH => ?_) | refine n_storeA hH rfl rfl rfl rfl rfl tN (fun w hH => ?_))) | refine n_alloc hH tW (fun g w hg hH => ?_) | (refine g_box ?_; (first | refine p_boxA hH rfl (fun g w hg hH => ?_) | refine p_boxI hH rfl (fun g w hg hH => ?_) | refine p_boxL hH rfl (fun g w hg hH => ?_))) | (refine g_cond ?_; (first | refine c_condD rfl (fun hc hp => ?_) (fun hc hp => ?_) | refine c_cond rfl (fun hc => ?_) (fun hc => ?_))) | refine d_start (P := Tryz.prog) hH (fun hH => ?_) | (refine g_any ?_; (first | (apply d_done; exact rfl; kernel_rfl) | (apply d_next; exact rfl; exact rfl; exact rfl; kernel_rfl; (first | (simp only [falses, setB]; exact rfl) | exact rfl); exact hH.sub tSub; (intro w hH; (repeat (first | refine stpO ?_ | (refine g_load ?_; (first | (refine p_loadRF hH rfl rfl (by omega) tO ?_) | (refine p_loadSF hH rfl rfl tO ?_) | (refine p_loadS hH rfl tW ?_))) | (refine p_neF rfl rfl ?_) | (refine p_eqF rfl rfl ?_))); exact r_nil one_end)) | (apply d_split; exact rfl; exact rfl; exact rfl; exact rfl; exact rfl; intro hg; rotate_left; intro hg; rotate_right) | (apply d_all1; exact rfl; kernel_rfl; exact rfl; exact rfl) | (apply d_all2; exact rfl; kernel_rfl; exact rfl; exact rfl; exact rfl; exact rfl) | (apply d_all3; exact rfl; kernel_rfl; exact rfl; exact rfl; exact rfl; exact rfl; exact rfl; exact rfl))) | refine then_end (hH.sub tSub) ?_)
    all_goals refine e_end (H1 := []) (resC2 (ty := 37) hH rfl rfl rfl rfl) hH ⟨?_, rfl⟩ tTk
    all_goals rfl
  | false =>
    have h107 := c107 ((x :: r).getD (Int.toNat 0) 0)
    have e0 : Hp.blankP ((x :: r).getD (Int.toNat 0) 0) = false := hb
    rw [e0] at h107
    cases hc : Hp.cutP 58 (x :: r) with
    | none =>
      have e : Hp.fieldR (x :: r) = (⟨[], []⟩, 84) := by simp [Hp.fieldR, hb, hc]
      rw [e]
      rw [hc] at h105
      dsimp only at h105
      refine callsA_of (args := [_]) Tryz.func79 rfl Tryz.ntmps79 (by simp) ?_
      intro w0 hH
      repeat' (first | refine stp ?_ | (refine g_guard ?_; (first | refine r_guardD rfl rfl rfl (fun hg hp => ?_) (fun hg hp => ?_) | refine r_guard rfl rfl rfl (fun hg => ?_) (fun hg => ?_))) | (refine g_load ?_; (first | (refine p_loadRF hH rfl rfl (by omega) tO ?_) | (refine p_loadSF hH rfl rfl tO ?_) | (refine p_loadSB hH rfl rfl tO ?_) | (refine p_loadRB hH rfl rfl (by omega) tO ?_) | (refine p_loadS hH rfl tW ?_))) | (refine g_call ?_; (first | (refine k_call (g := 107) Tryz.func107 rfl rfl hH (EvL.cons (EvK.any rfl) EvL.nil) (h107) tTk tRd (fun v H1 w hT hH => ?_); obtain ⟨rfl, rfl⟩ := hT; simp only [List.nil_append, List.cons_append] at hH) | (refine k_call (g := 105) Tryz.func105 rfl rfl hH (EvL.cons (EvK.any rfl) (EvL.cons (EvK.any rfl) EvL.nil)) (h105) tTk tRd (fun v H1 w hT hH => ?_); obtain ⟨rfl, rfl⟩ := hT; simp only [List.nil_append, List.cons_append] at hH) | (refine p_appendL hH rfl rfl (Reads1.own (v := .nilIface) (Sel.mem tSel)) rfl rfl rfl tO rfl (fun vb vc w hH => ?_)))) | refine n_buildSlice1 hH tE rfl rfl rfl rfl tN (fun g w hg hH => ?_) | (refine r_toInt Tryz.underlying183 Tryz.underlying3 rfl (wrap_small (by omega)) ?_) | (refine p_toTextS hH rfl rfl tO rfl ?_) | (refine p_neF rfl rfl ?_) | (refine p_eqF rfl rfl ?_) | (refine g_store ?_; (first | refine n_store hH rfl tE rfl rfl tN (fun w hH => ?_) | refine n_storeA hH rfl rfl rfl rfl rfl tN (fun w hH => ?_))) | refine n_alloc hH tW (fun g w hg hH => ?_) | (refine g_box ?_; (first | refine p_boxA hH rfl (fun g w hg hH => ?_) | refine p_boxI hH rfl (fun g w hg hH => ?_) | refine p_boxL hH rfl (fun g w hg hH => ?_))) | (refine g_cond ?_; (first | refine c_condD rfl (fun hc hp => ?_) (fun hc hp => ?_) | refine c_cond rfl (fun hc => ?_) (fun hc => ?_))) | refine d_start (P := Tryz.prog) hH (fun hH => ?_) | (refine g_any ?_; (first | (apply d_done; exact rfl; kernel_rfl) | (apply d_next; exact rfl; exact rfl; exact rfl; kernel_rfl; (first | (simp only [falses, setB]; exact rfl) | exact rfl); exact hH.sub tSub; (intro w hH; (repeat (first | refine stpO ?_ | (refine g_load ?_; (first | (refine p_loadRF hH rfl rfl (by omega) tO ?_) | (refine p_loadSF hH rfl rfl tO ?_) | (refine p_loadS hH rfl tW ?_))) | (refine p_neF rfl rfl ?_) | (refine p_eqF rfl rfl ?_))); exact r_nil one_end)) | (apply d_split; exact rfl; exact rfl; exact rfl; exact rfl; exact rfl; intro hg; rotate_left; intro hg; rotate_right) | (apply d_all1; exact rfl; kernel_rfl; exact rfl; exact rfl) | (apply d_all2; exact rfl; kernel_rfl; exact rfl; exact rfl; exact rfl; exact rfl) | (apply d_all3; exact rfl; kernel_rfl; exact rfl; exact rfl; exact rfl; exact rfl; exact rfl; exact rfl))) | refine then_end (hH.sub tSub) ?_)
      all_goals refine e_end (H1 := []) (resC2 (ty := 37) hH rfl rfl rfl rfl) hH ⟨?_, rfl⟩ tTk
      all_goals rfl
    | some ab =>
      obtain ⟨name, value⟩ := ab
      have e : Hp.fieldR (x :: r) = if Hp.lastBlank name then (⟨[], []⟩, 83) else if !Hp.tokenP name then (⟨[], []⟩, 70) else if !Hp.valueP (Hp.trimP value) then (⟨[], []⟩, 71) else (⟨name, Hp.trimP value⟩, 0) := by simp [Hp.fieldR, hb, hc]
      rw [e]
      rw [hc] at h105
      dsimp only at h105
      have hlen := congrArg List.length (Hp.cut_some hc).1
      simp only [List.length_append, List.length_cons] at hlen hs
      have htl := trimP_le value
      rcases List.eq_nil_or_concat name with rfl | ⟨t, d, rfl⟩
      · have h56 := c56 [] (by simp)
        have et : Hp.tokenP [] = false := rfl
        rw [et] at h56
        refine callsA_of (args := [_]) Tryz.func79 rfl Tryz.ntmps79 (by simp) ?_
        intro w0 hH
        repeat' (first | refine stp ?_ | (refine g_guard ?_; (first | refine r_guardD rfl rfl rfl (fun hg hp => ?_) (fun hg hp => ?_) | refine r_guard rfl rfl rfl (fun hg => ?_) (fun hg => ?_))) | (refine g_load ?_; (first | (refine p_loadRF hH rfl rfl (by omega) tO ?_) | (refine p_loadSF hH rfl rfl tO ?_) | (refine p_loadSB hH rfl rfl tO ?_) | (refine p_loadRB hH rfl rfl (by omega) tO ?_) | (refine p_loadS hH rfl tW ?_))) | (refine g_call ?_; (first | (refine k_call (g := 107) Tryz.func107 rfl rfl hH (EvL.cons (EvK.any rfl) EvL.nil) (h107) tTk tRd (fun v H1 w hT hH => ?_); obtain ⟨rfl, rfl⟩ := hT; simp only [List.nil_append, List.cons_append] at hH) | (refine k_call (g := 105) Tryz.func105 rfl rfl hH (EvL.cons (EvK.any rfl) (EvL.cons (EvK.any rfl) EvL.nil)) (h105) tTk tRd (fun v H1 w hT hH => ?_); obtain ⟨rfl, rfl⟩ := hT; simp only [List.nil_append, List.cons_append] at hH) | (refine k_call (g := 56) Tryz.func56 rfl rfl hH (EvL.cons (EvK.any rfl) EvL.nil) (h56) tTk tRd (fun v H1 w hT hH => ?_); obtain ⟨rfl, rfl⟩ := hT; simp only [List.nil_append, List.cons_append] at hH) | (refine p_appendL hH rfl rfl (Reads1.own (v := .nilIface) (Sel.mem tSel)) rfl rfl rfl tO rfl (fun vb vc w hH => ?_)))) | refine n_buildSlice1 hH tE rfl rfl rfl rfl tN (fun g w hg hH => ?_) | (refine r_toInt Tryz.underlying183 Tryz.underlying3 rfl (wrap_small (by omega)) ?_) | (refine p_toTextS hH rfl rfl tO rfl ?_) | (refine p_neF rfl rfl ?_) | (refine p_eqF rfl rfl ?_) | (refine g_store ?_; (first | refine n_store hH rfl tE rfl rfl tN (fun w hH => ?_) | refine n_storeA hH rfl rfl rfl rfl rfl tN (fun w hH => ?_))) | refine n_alloc hH tW (fun g w hg hH => ?_) | (refine g_box ?_; (first | refine p_boxA hH rfl (fun g w hg hH => ?_) | refine p_boxI hH rfl (fun g w hg hH => ?_) | refine p_boxL hH rfl (fun g w hg hH => ?_))) | (refine g_cond ?_; (first | refine c_condD rfl (fun hc hp => ?_) (fun hc hp => ?_) | refine c_cond rfl (fun hc => ?_) (fun hc => ?_))) | refine d_start (P := Tryz.prog) hH (fun hH => ?_) | (refine g_any ?_; (first | (apply d_done; exact rfl; kernel_rfl) | (apply d_next; exact rfl; exact rfl; exact rfl; kernel_rfl; (first | (simp only [falses, setB]; exact rfl) | exact rfl); exact hH.sub tSub; (intro w hH; (repeat (first | refine stpO ?_ | (refine g_load ?_; (first | (refine p_loadRF hH rfl rfl (by omega) tO ?_) | (refine p_loadSF hH rfl rfl tO ?_) | (refine p_loadS hH rfl tW ?_))) | (refine p_neF rfl rfl ?_) | (refine p_eqF rfl rfl ?_))); exact r_nil one_end)) | (apply d_split; exact rfl; exact rfl; exact rfl; exact rfl; exact rfl; intro hg; rotate_left; intro hg; rotate_right) | (apply d_all1; exact rfl; kernel_rfl; exact rfl; exact rfl) | (apply d_all2; exact rfl; kernel_rfl; exact rfl; exact rfl; exact rfl; exact rfl) | (apply d_all3; exact rfl; kernel_rfl; exact rfl; exact rfl; exact rfl; exact rfl; exact rfl; exact rfl))) | refine then_end (hH.sub tSub) ?_)
        all_goals refine e_end (H1 := []) (resC2 (ty := 37) hH rfl rfl rfl rfl) hH ⟨?_, rfl⟩ tTk
        all_goals rfl
      · rw [List.concat_eq_append] at *
        have hlb : Hp.lastBlank (t ++ [d]) = Hp.blankP d := by simp [Hp.lastBlank]
        rw [hlb]
        have hne : decide (t ++ [d] ≠ []) = true := by simp
        have hlt : (t ++ [d]).length = t.length + 1 := by simp
        refine callsA_of (args := [_]) Tryz.func79 rfl Tryz.ntmps79 (by simp) ?_
        intro w0 hH
        repeat' (first | refine stp ?_ | (refine g_guard ?_; (first | refine r_guardD rfl rfl rfl (fun hg hp => ?_) (fun hg hp => ?_) | refine r_guard rfl rfl rfl (fun hg => ?_) (fun hg => ?_))) | (refine g_load ?_; (first | (refine p_loadRF hH rfl rfl (by omega) tO ?_) | (refine p_loadSF hH rfl rfl tO ?_) | (refine p_loadSB hH rfl rfl tO ?_) | (refine p_loadRB hH rfl rfl (by omega) tO ?_) | (refine p_loadS hH rfl tW ?_))) | (refine g_call ?_; (first | (refine k_call (g := 107) Tryz.func107 rfl rfl hH (EvL.cons (EvK.any rfl) EvL.nil) (h107) tTk tRd (fun v H1 w hT hH => ?_); obtain ⟨rfl, rfl⟩ := hT; simp only [List.nil_append, List.cons_append] at hH) | (refine k_call (g := 107) Tryz.func107 rfl rfl hH (EvL.cons (EvK.any rfl) EvL.nil) (c107 _) tTk tRd (fun v H1 w hT hH => ?_); obtain ⟨rfl, rfl⟩ := hT; simp only [List.nil_append, List.cons_append] at hH) | (refine k_call (g := 105) Tryz.func105 rfl rfl hH (EvL.cons (EvK.any rfl) (EvL.cons (EvK.any rfl) EvL.nil)) (h105) tTk tRd (fun v H1 w hT hH => ?_); obtain ⟨rfl, rfl⟩ := hT; simp only [List.nil_append, List.cons_append] at hH) | (refine k_call (g := 56) Tryz.func56 rfl rfl hH (EvL.cons (EvK.any rfl) EvL.nil) (c56 _ (by omega)) tTk tRd (fun v H1 w hT hH => ?_); obtain ⟨rfl, rfl⟩ := hT; simp only [List.nil_append, List.cons_append] at hH) | (refine k_call (g := 108) Tryz.func108 rfl rfl hH (EvL.cons (EvK.any rfl) EvL.nil) (c108 _ (by omega)) tTk tRd (fun v H1 w hT hH => ?_); obtain ⟨rfl, rfl⟩ := hT; simp only [List.nil_append, List.cons_append] at hH) | (refine k_call (g := 109) Tryz.func109 rfl rfl hH (EvL.cons (EvK.any rfl) EvL.nil) (c109 _ (by omega)) tTk tRd (fun v H1 w hT hH => ?_); obtain ⟨rfl, rfl⟩ := hT; simp only [List.nil_append, List.cons_append] at hH) | (refine p_appendL hH rfl rfl (Reads1.own (v := .nilIface) (Sel.mem tSel)) rfl rfl rfl tO rfl (fun vb vc w hH => ?_)))) | refine n_buildSlice1 hH tE rfl rfl rfl rfl tN (fun g w hg hH => ?_) | (refine r_toInt Tryz.underlying183 Tryz.underlying3 rfl (wrap_small (by omega)) ?_) | (refine p_toTextS hH rfl rfl tO rfl ?_) | (refine p_neF rfl rfl ?_) | (refine p_eqF rfl rfl ?_) | (refine g_store ?_; (first | refine n_store hH rfl tE rfl rfl tN (fun w hH => ?_) | refine n_storeA hH rfl rfl rfl rfl rfl tN (fun w hH => ?_))) | refine n_alloc hH tW (fun g w hg hH => ?_) | (refine g_box ?_; (first | refine p_boxA hH rfl (fun g w hg hH => ?_) | refine p_boxI hH rfl (fun g w hg hH => ?_) | refine p_boxL hH rfl (fun g w hg hH => ?_))) | (refine g_cond ?_; (first | refine c_condD rfl (fun hc hp => ?_) (fun hc hp => ?_) | refine c_cond rfl (fun hc => ?_) (fun hc => ?_))) | refine d_start (P := Tryz.prog) hH (fun hH => ?_) | (refine g_any ?_; (first | (apply d_done; exact rfl; kernel_rfl) | (apply d_next; exact rfl; exact rfl; exact rfl; kernel_rfl; (first | (simp only [falses, setB]; exact rfl) | exact rfl); exact hH.sub tSub; (intro w hH; (repeat (first | refine stpO ?_ | (refine g_load ?_; (first | (refine p_loadRF hH rfl rfl (by omega) tO ?_) | (refine p_loadSF hH rfl rfl tO ?_) | (refine p_loadS hH rfl tW ?_))) | (refine p_neF rfl rfl ?_) | (refine p_eqF rfl rfl ?_))); exact r_nil one_end)) | (apply d_split; exact rfl; exact rfl; exact rfl; exact rfl; exact rfl; intro hg; rotate_left; intro hg; rotate_right) | (apply d_all1; exact rfl; kernel_rfl; exact rfl; exact rfl) | (apply d_all2; exact rfl; kernel_rfl; exact rfl; exact rfl; exact rfl; exact rfl) | (apply d_all3; exact rfl; kernel_rfl; exact rfl; exact rfl; exact rfl; exact rfl; exact rfl; exact rfl))) | refine then_end (hH.sub tSub) ?_)
        all_goals (have hx : (t ++ [d]).getD (((t ++ [d]).length : Int) - 1).toNat 0 = d := by
                    have : (((t ++ [d]).length : Int) - 1).toNat = t.length := by omega
                    rw [this]; simp [List.getD])
        · have b0 : Hp.blankP d = true := by rw [← hx]; (first | assumption | simpa using ‹(!Hp.blankP ((t ++ [d]).getD (((t ++ [d]).length : Int) - 1).toNat 0)) = false› | simpa using ‹(!Hp.blankP ((t ++ [d]).getD (((t ++ [d]).length : Int) - 1).toNat 0)) = !true› | (simpa using ‹¬ _›))
          refine e_end (H1 := []) (resC2 (ty := 37) hH rfl rfl rfl rfl) hH ⟨?_, rfl⟩ tTk
          rw [b0]; rfl
        · have b0 : Hp.blankP d = false := by rw [← hx]; (first | assumption | simpa using ‹(!Hp.blankP ((t ++ [d]).getD (((t ++ [d]).length : Int) - 1).toNat 0)) = true› | simpa using ‹(!Hp.blankP ((t ++ [d]).getD (((t ++ [d]).length : Int) - 1).toNat 0)) = !false› | (simpa using ‹¬ _›))
          have b1 : Hp.tokenP (t ++ [d]) = false := by (first | assumption | simpa using ‹(!Hp.tokenP (t ++ [d])) = true› | simpa using ‹(!Hp.tokenP (t ++ [d])) = !false› | (simpa using ‹¬ _›))
          refine e_end (H1 := []) (resC2 (ty := 37) hH rfl rfl rfl rfl) hH ⟨?_, rfl⟩ tTk
          rw [b0, b1]; rfl
        · have b0 : Hp.blankP d = false := by rw [← hx]; (first | assumption | simpa using ‹(!Hp.blankP ((t ++ [d]).getD (((t ++ [d]).length : Int) - 1).toNat 0)) = true› | simpa using ‹(!Hp.blankP ((t ++ [d]).getD (((t ++ [d]).length : Int) - 1).toNat 0)) = !false› | (simpa using ‹¬ _›))
          have b1 : Hp.tokenP (t ++ [d]) = true := by (first | assumption | simpa using ‹(!Hp.tokenP (t ++ [d])) = false› | simpa using ‹(!Hp.tokenP (t ++ [d])) = !true› | (simpa using ‹¬ _›))
          have b2 : Hp.valueP (Hp.trimP value) = false := by (first | assumption | simpa using ‹(!Hp.valueP (Hp.trimP value)) = true› | simpa using ‹(!Hp.valueP (Hp.trimP value)) = !false› | (simpa using ‹¬ _›))
          refine e_end (H1 := []) (resC2 (ty := 37) hH rfl rfl rfl rfl) hH ⟨?_, rfl⟩ tTk
          rw [b0, b1, b2]; rfl
        · have b0 : Hp.blankP d = false := by rw [← hx]; (first | assumption | simpa using ‹(!Hp.blankP ((t ++ [d]).getD (((t ++ [d]).length : Int) - 1).toNat 0)) = true› | simpa using ‹(!Hp.blankP ((t ++ [d]).getD (((t ++ [d]).length : Int) - 1).toNat 0)) = !false› | (simpa using ‹¬ _›))
          have b1 : Hp.tokenP (t ++ [d]) = true := by (first | assumption | simpa using ‹(!Hp.tokenP (t ++ [d])) = false› | simpa using ‹(!Hp.tokenP (t ++ [d])) = !true› | (simpa using ‹¬ _›))
          have b2 : Hp.valueP (Hp.trimP value) = true := by (first | assumption | simpa using ‹(!Hp.valueP (Hp.trimP value)) = false› | simpa using ‹(!Hp.valueP (Hp.trimP value)) = !true› | (simpa using ‹¬ _›))
          refine e_end (H1 := []) (resC2 (ty := 37) hH rfl rfl rfl rfl) hH ⟨?_, rfl⟩ tTk
          rw [b0, b1, b2]; rfl

end Go.Proofs.YtiofekhdicfmoaaGreatDoor

namespace Go.Proofs.YtiofekhdicfmoaaGreatDoor
open Go Go.Hr
attribute [local irreducible] Go.wpList Go.Code.wp Go.Calls Go.Hr.CallsA Go.wpAnyH Go.callFunc Go.callMethod Go.Instr.typeAssert Go.Sem.run
set_option maxHeartbeats 4000000
set_option linter.all false

set_option maxRecDepth 8000
open Go.RowKit
abbrev firstV (x : Hp.HeadP × Nat) : Value := .tuple (List.toArray [headV x.1 (.slice none 0 0), .int .i64 (x.2 : Int)])
theorem cut2R_len (c : UInt8) (s : List UInt8) : (Hp.cut2R c s).1.length ≤ s.length ∧ (Hp.cut2R c s).2.1.length ≤ s.length := by
  unfold Hp.cut2R
  cases h : Hp.cutP c s with
  | none => simp
  | some ab =>
    obtain ⟨a, b⟩ := ab
    have := congrArg List.length (Hp.cut_some h).1
    simp only [List.length_append, List.length_cons] at this
    simp only; omega
theorem digit10T (c : UInt8) : Hp.digitOf 10 c = if Hp.digitP c = true then some (c.toNat - 48) else none := by
  rw [digitOf_eq]
  have hd : (Hp.digitP c = true) ↔ (48 ≤ c.toNat ∧ c.toNat ≤ 57) := by unfold Hp.digitP; simp [UInt8.le_iff_toNat_le]
  by_cases h : 48 ≤ c.toNat ∧ c.toNat ≤ 57
  · rw [if_pos h, if_pos (hd.2 h)]
    simp only
    rw [if_pos (by omega)]
  · rw [if_neg h, if_neg (fun k => h (hd.1 k))]
    split <;> try simp only
    split
    · rename_i d hd2 _
      split at hd2
      · simp only [Option.some.injEq] at hd2; omega
      · split at hd2
        · simp only [Option.some.injEq] at hd2; omega
        · cases hd2
    · rfl
theorem digits_status (y : List UInt8) : Hp.status3 y = if (Hp.digitsP 10 y).2 = 0 ∧ y.length = 3 then some (Hp.digitsP 10 y).1 else none := by
  by_cases hl : y.length = 3
  · obtain ⟨a, b, c, rfl⟩ : ∃ a b c, y = [a, b, c] := by
      match y, hl with
      | [a, b, c], _ => exact ⟨a, b, c, rfl⟩
    have ha := a.toNat_lt; have hb := b.toNat_lt; have hc := c.toNat_lt
    unfold Hp.digitsP Hp.status3
    simp only [go_cons, digit10T]
    have m : Hp.maxSize = 9007199254740992 := rfl
    cases hda : Hp.digitP a with
    | false => simp
    | true =>
      cases hdb : Hp.digitP b with
      | false => simp
      | true =>
        cases hdc : Hp.digitP c with
        | false => simp
        | true =>
          simp only [if_true, Bool.and_self, Hp.digitsGo]
          rw [if_neg (show ¬ (0 > Hp.maxSize) by rw [m]; omega), if_neg (show ¬ (0 * 10 + (a.toNat - 48) > Hp.maxSize) by rw [m]; omega), if_neg (show ¬ ((0 * 10 + (a.toNat - 48)) * 10 + (b.toNat - 48) > Hp.maxSize) by rw [m]; omega)]
          simp only [List.cons_ne_nil, if_false]
          rw [if_neg (show ¬ (((0 * 10 + (a.toNat - 48)) * 10 + (b.toNat - 48)) * 10 + (c.toNat - 48) > Hp.maxSize) by rw [m]; omega)]
          simp; omega
  · rw [if_neg (fun k => hl k.2)]
    unfold Hp.status3
    split
    · exact absurd rfl hl
    · rfl
theorem c78 (rq : Bool) (s : List UInt8) (hs : s.length ≤ 1099511627776) : CallsA Tryz.prog 78 (List.toArray [.bool rq, .string ⟨s.toArray⟩]) [] [] (fun v H' => v = firstV (Hp.firstR rq s) ∧ H' = []) := by
  have h105a := c105 s 32 hs
  have hl1 := cut2R_len 32 s
  unfold Hp.firstR
  generalize Hp.cut2R 32 s = x at *
  obtain ⟨x1, x2, xb⟩ := x
  dsimp only at h105a hl1 ⊢
  have h105b := c105 x2 32 (by omega)
  have hl2 := cut2R_len 32 x2
  generalize Hp.cut2R 32 x2 = y at *
  obtain ⟨y1, y2, yb⟩ := y
  dsimp only at h105b hl2 ⊢
  have h56 := c56 x1 (by omega)
  have h97 := c97 y1 10 (by omega) (by omega) (by omega)
  rw [digits_status]
  generalize Hp.digitsP 10 y1 = dg at *
  obtain ⟨n, e⟩ := dg
  dsimp only at h97 ⊢
  by_cases hb : xb = true ∧ yb = true
  · obtain ⟨rfl, rfl⟩ := hb
    rw [if_neg (by simp)]
    cases rq with
    | true =>
      have h106 := c106 y2 (by omega)
      rw [if_pos rfl]
      refine callsA_of (args := [_, _]) Tryz.func78 rfl Tryz.ntmps78 (by simp) ?_
      intro w0 hH
      repeat' (first | refine stp ?_ | (refine g_guard ?_; (first | refine r_guardD rfl rfl rfl (fun hg hp => ?_) (fun hg hp => ?_) | refine r_guard rfl rfl rfl (fun hg => ?_) (fun hg => ?_))) | (refine g_load ?_; (first | (refine p_loadRF hH rfl rfl (by omega) tO ?_) | (refine p_loadSF hH rfl rfl tO ?_) | (refine p_loadSB hH rfl rfl tO ?_) | (refine p_loadRB hH rfl rfl (by omega) tO ?_) | (refine p_loadS hH rfl tW ?_))) | (refine g_call ?_; (first | (refine k_call (g := 105) Tryz.func105 rfl rfl hH (EvL.cons (EvK.any rfl) (EvL.cons (EvK.any rfl) EvL.nil)) (h105a) tTk tRd (fun v H1 w hT hH => ?_); obtain ⟨rfl, rfl⟩ := hT; simp only [List.nil_append, List.cons_append] at hH) | (refine k_call (g := 105) Tryz.func105 rfl rfl hH (EvL.cons (EvK.any rfl) (EvL.cons (EvK.any rfl) EvL.nil)) (h105b) tTk tRd (fun v H1 w hT hH => ?_); obtain ⟨rfl, rfl⟩ := hT; simp only [List.nil_append, List.cons_append] at hH) | (refine p_appendL hH rfl rfl (Reads1.own (v := .nilIface) (Sel.mem tSel)) rfl rfl rfl tO rfl (fun vb vc w hH => ?_)))) | refine n_buildSlice1 hH tE rfl rfl rfl rfl tN (fun g w hg hH => ?_) | (refine r_toInt Tryz.underlying183 Tryz.underlying3 rfl (wrap_small (by omega)) ?_) | (refine p_toTextS hH rfl rfl tO rfl ?_) | (refine p_neF rfl rfl ?_) | (refine p_eqF rfl rfl ?_) | (refine g_store ?_; (first | refine n_store hH rfl tE rfl rfl tN (fun w hH => ?_) | refine n_storeA hH rfl rfl rfl rfl rfl tN (fun w hH => ?_))) | refine n_alloc hH tW (fun g w hg hH => ?_) | (refine g_box ?_; (first | refine p_boxA hH rfl (fun g w hg hH => ?_) | refine p_boxI hH rfl (fun g w hg hH => ?_) | refine p_boxL hH rfl (fun g w hg hH => ?_))) | (refine g_cond ?_; (first | refine c_condD rfl (fun hc hp => ?_) (fun hc hp => ?_) | refine c_cond rfl (fun hc => ?_) (fun hc => ?_))) | refine d_start (P := Tryz.prog) hH (fun hH => ?_) | (refine g_any ?_; (first | (apply d_done; exact rfl; kernel_rfl) | (apply d_next; exact rfl; exact rfl; exact rfl; kernel_rfl; (first | (simp only [falses, setB]; exact rfl) | exact rfl); exact hH.sub tSub; (intro w hH; (repeat (first | refine stpO ?_ | (refine g_load ?_; (first | (refine p_loadRF hH rfl rfl (by omega) tO ?_) | (refine p_loadSF hH rfl rfl tO ?_) | (refine p_loadS hH rfl tW ?_))) | (refine p_neF rfl rfl ?_) | (refine p_eqF rfl rfl ?_))); exact r_nil one_end)) | (apply d_split; exact rfl; exact rfl; exact rfl; exact rfl; exact rfl; intro hg; rotate_left; intro hg; rotate_right) | (apply d_all1; exact rfl; kernel_rfl; exact rfl; exact rfl) | (apply d_all2; exact rfl; kernel_rfl; exact rfl; exact rfl; exact rfl; exact rfl) | (apply d_all3; exact rfl; kernel_rfl; exact rfl; exact rfl; exact rfl; exact rfl; exact rfl; exact rfl))) | refine then_end (hH.sub tSub) ?_)
      refine c_loopS (fun i : Nat => [(4, .pointer (some ⟨g, 0, none⟩)), (6, .string ⟨x1.toArray⟩), (9, .string ⟨y1.toArray⟩), (10, .string ⟨y2.toArray⟩), (12, .int .i64 (i : Int))]) (fun i w => i ≤ y1.length ∧ (y1.take i).all Hp.visP = true ∧ Holds w0 (bl []) w [] [.pt g 24 [.bool false, .string ⟨#[]⟩, .string ⟨#[]⟩, .int .i64 0, .int .i64 0, .string ⟨#[]⟩, .slice none 0 0]]) (fun i => y1.length - i) 0 tAg ⟨by omega, rfl, hH⟩ (fun i f w hI => ?_)
      clear hH
      obtain ⟨hi, hall, hH⟩ := hI
      by_cases hlt : i < y1.length
      · have k1 : decide ((i : Int) < (y1.length : Int)) = true := by rw [decide_eq_true_eq]; omega
        have e1 : ((i : Int)).toNat = i := by omega
        have hsucc : (y1.take (i + 1)).all Hp.visP = Hp.visP (y1.getD ((i : Int)).toNat 0) := by
          rw [List.take_succ_eq_append_getElem hlt, List.all_append, hall, e1]
          simp [List.getD, List.getElem?_eq_getElem hlt]
        rw [vis_eq] at hsucc
        repeat' (first | refine stp ?_ | (refine g_guard ?_; (first | refine r_guardD rfl rfl rfl (fun hg hp => ?_) (fun hg hp => ?_) | refine r_guard rfl rfl rfl (fun hg => ?_) (fun hg => ?_))) | (refine g_load ?_; (first | (refine p_loadRF hH rfl rfl (by omega) tO ?_) | (refine p_loadSF hH rfl rfl tO ?_) | (refine p_loadSB hH rfl rfl tO ?_) | (refine p_loadRB hH rfl rfl (by omega) tO ?_) | (refine p_loadS hH rfl tW ?_))) | (refine g_call ?_; (first | (refine p_appendL hH rfl rfl (Reads1.own (v := .nilIface) (Sel.mem tSel)) rfl rfl rfl tO rfl (fun vb vc w hH => ?_)))) | refine n_buildSlice1 hH tE rfl rfl rfl rfl tN (fun g w hg hH => ?_) | (refine r_toInt Tryz.underlying183 Tryz.underlying3 rfl (wrap_small (by omega)) ?_) | (refine p_toTextS hH rfl rfl tO rfl ?_) | (refine p_neF rfl rfl ?_) | (refine p_eqF rfl rfl ?_) | (refine g_store ?_; (first | refine n_store hH rfl tE rfl rfl tN (fun w hH => ?_) | refine n_storeA hH rfl rfl rfl rfl rfl tN (fun w hH => ?_))) | refine n_alloc hH tW (fun g w hg hH => ?_) | (refine g_box ?_; (first | refine p_boxA hH rfl (fun g w hg hH => ?_) | refine p_boxI hH rfl (fun g w hg hH => ?_) | refine p_boxL hH rfl (fun g w hg hH => ?_))) | (refine g_cond ?_; (first | refine c_condD rfl (fun hc hp => ?_) (fun hc hp => ?_) | refine c_cond rfl (fun hc => ?_) (fun hc => ?_))) | refine d_start (P := Tryz.prog) hH (fun hH => ?_) | (refine g_any ?_; (first | (apply d_done; exact rfl; kernel_rfl) | (apply d_next; exact rfl; exact rfl; exact rfl; kernel_rfl; (first | (simp only [falses, setB]; exact rfl) | exact rfl); exact hH.sub tSub; (intro w hH; (repeat (first | refine stpO ?_ | (refine g_load ?_; (first | (refine p_loadRF hH rfl rfl (by omega) tO ?_) | (refine p_loadSF hH rfl rfl tO ?_) | (refine p_loadS hH rfl tW ?_))) | (refine p_neF rfl rfl ?_) | (refine p_eqF rfl rfl ?_))); exact r_nil one_end)) | (apply d_split; exact rfl; exact rfl; exact rfl; exact rfl; exact rfl; intro hg; rotate_left; intro hg; rotate_right) | (apply d_all1; exact rfl; kernel_rfl; exact rfl; exact rfl) | (apply d_all2; exact rfl; kernel_rfl; exact rfl; exact rfl; exact rfl; exact rfl) | (apply d_all3; exact rfl; kernel_rfl; exact rfl; exact rfl; exact rfl; exact rfl; exact rfl; exact rfl))) | refine then_end (hH.sub tSub) ?_)
        all_goals first
          | (refine ⟨i + 1, _, _, by omega, rfl, tAg, by omega, ?_, hH⟩
             rw [hsucc, Bool.and_eq_true, decide_eq_true_eq, decide_eq_true_eq]; omega)
          | (refine e_end (H1 := []) (resC2 (ty := 24) hH rfl rfl rfl rfl) hH ⟨?_, rfl⟩ tTk
             have hn : y1.all Hp.visP = false := by
               rw [← Bool.not_eq_true]; intro ha
               have h2 : (y1.take (i + 1)).all Hp.visP = true := List.all_eq_true.2 fun z hz => List.all_eq_true.1 ha z (List.mem_of_mem_take hz)
               rw [hsucc, Bool.and_eq_true, decide_eq_true_eq, decide_eq_true_eq] at h2; omega
             rw [hn]; rfl)
      · have k1 : decide ((i : Int) < (y1.length : Int)) = false := by rw [decide_eq_false_iff_not]; omega
        have hi' : i = y1.length := by omega
        subst hi'
        rw [List.take_length] at hall
        rw [hall]
        cases ht : Hp.tokenP x1 with
        | false =>
          rw [ht] at h56
          repeat' (first | refine stp ?_ | (refine g_guard ?_; (first | refine r_guardD rfl rfl rfl (fun hg hp => ?_) (fun hg hp => ?_) | refine r_guard rfl rfl rfl (fun hg => ?_) (fun hg => ?_))) | (refine g_load ?_; (first | (refine p_loadRF hH rfl rfl (by omega) tO ?_) | (refine p_loadSF hH rfl rfl tO ?_) | (refine p_loadSB hH rfl rfl tO ?_) | (refine p_loadRB hH rfl rfl (by omega) tO ?_) | (refine p_loadS hH rfl tW ?_))) | (refine g_call ?_; (first | (refine k_call (g := 56) Tryz.func56 rfl rfl hH (EvL.cons (EvK.any rfl) EvL.nil) (h56) tTk tRd (fun v H1 w hT hH => ?_); obtain ⟨rfl, rfl⟩ := hT; simp only [List.nil_append, List.cons_append] at hH) | (refine k_call (g := 106) Tryz.func106 rfl rfl hH (EvL.cons (EvK.any rfl) EvL.nil) (h106) tTk tRd (fun v H1 w hT hH => ?_); obtain ⟨rfl, rfl⟩ := hT; simp only [List.nil_append, List.cons_append] at hH) | (refine p_appendL hH rfl rfl (Reads1.own (v := .nilIface) (Sel.mem tSel)) rfl rfl rfl tO rfl (fun vb vc w hH => ?_)))) | refine n_buildSlice1 hH tE rfl rfl rfl rfl tN (fun g w hg hH => ?_) | (refine r_toInt Tryz.underlying183 Tryz.underlying3 rfl (wrap_small (by omega)) ?_) | (refine p_toTextS hH rfl rfl tO rfl ?_) | (refine p_neF rfl rfl ?_) | (refine p_eqF rfl rfl ?_) | (refine g_store ?_; (first | refine n_store hH rfl tE rfl rfl tN (fun w hH => ?_) | refine n_storeA hH rfl rfl rfl rfl rfl tN (fun w hH => ?_))) | refine n_alloc hH tW (fun g w hg hH => ?_) | (refine g_box ?_; (first | refine p_boxA hH rfl (fun g w hg hH => ?_) | refine p_boxI hH rfl (fun g w hg hH => ?_) | refine p_boxL hH rfl (fun g w hg hH => ?_))) | (refine g_cond ?_; (first | refine c_condD rfl (fun hc hp => ?_) (fun hc hp => ?_) | refine c_cond rfl (fun hc => ?_) (fun hc => ?_))) | refine d_start (P := Tryz.prog) hH (fun hH => ?_) | (refine g_any ?_; (first | (apply d_done; exact rfl; kernel_rfl) | (apply d_next; exact rfl; exact rfl; exact rfl; kernel_rfl; (first | (simp only [falses, setB]; exact rfl) | exact rfl); exact hH.sub tSub; (intro w hH; (repeat (first | refine stpO ?_ | (refine g_load ?_; (first | (refine p_loadRF hH rfl rfl (by omega) tO ?_) | (refine p_loadSF hH rfl rfl tO ?_) | (refine p_loadS hH rfl tW ?_))) | (refine p_neF rfl rfl ?_) | (refine p_eqF rfl rfl ?_))); exact r_nil one_end)) | (apply d_split; exact rfl; exact rfl; exact rfl; exact rfl; exact rfl; intro hg; rotate_left; intro hg; rotate_right) | (apply d_all1; exact rfl; kernel_rfl; exact rfl; exact rfl) | (apply d_all2; exact rfl; kernel_rfl; exact rfl; exact rfl; exact rfl; exact rfl) | (apply d_all3; exact rfl; kernel_rfl; exact rfl; exact rfl; exact rfl; exact rfl; exact rfl; exact rfl))) | refine then_end (hH.sub tSub) ?_)
          all_goals refine e_end (H1 := []) (resC2 (ty := 24) hH rfl rfl rfl rfl) hH ⟨?_, rfl⟩ tTk
          all_goals rfl
        | true =>
          rw [ht] at h56
          rcases y1 with _ | ⟨z, zs⟩
          · repeat' (first | refine stp ?_ | (refine g_guard ?_; (first | refine r_guardD rfl rfl rfl (fun hg hp => ?_) (fun hg hp => ?_) | refine r_guard rfl rfl rfl (fun hg => ?_) (fun hg => ?_))) | (refine g_load ?_; (first | (refine p_loadRF hH rfl rfl (by omega) tO ?_) | (refine p_loadSF hH rfl rfl tO ?_) | (refine p_loadSB hH rfl rfl tO ?_) | (refine p_loadRB hH rfl rfl (by omega) tO ?_) | (refine p_loadS hH rfl tW ?_))) | (refine g_call ?_; (first | (refine k_call (g := 56) Tryz.func56 rfl rfl hH (EvL.cons (EvK.any rfl) EvL.nil) (h56) tTk tRd (fun v H1 w hT hH => ?_); obtain ⟨rfl, rfl⟩ := hT; simp only [List.nil_append, List.cons_append] at hH) | (refine k_call (g := 106) Tryz.func106 rfl rfl hH (EvL.cons (EvK.any rfl) EvL.nil) (h106) tTk tRd (fun v H1 w hT hH => ?_); obtain ⟨rfl, rfl⟩ := hT; simp only [List.nil_append, List.cons_append] at hH) | (refine p_appendL hH rfl rfl (Reads1.own (v := .nilIface) (Sel.mem tSel)) rfl rfl rfl tO rfl (fun vb vc w hH => ?_)))) | refine n_buildSlice1 hH tE rfl rfl rfl rfl tN (fun g w hg hH => ?_) | (refine r_toInt Tryz.underlying183 Tryz.underlying3 rfl (wrap_small (by omega)) ?_) | (refine p_toTextS hH rfl rfl tO rfl ?_) | (refine p_neF rfl rfl ?_) | (refine p_eqF rfl rfl ?_) | (refine g_store ?_; (first | refine n_store hH rfl tE rfl rfl tN (fun w hH => ?_) | refine n_storeA hH rfl rfl rfl rfl rfl tN (fun w hH => ?_))) | refine n_alloc hH tW (fun g w hg hH => ?_) | (refine g_box ?_; (first | refine p_boxA hH rfl (fun g w hg hH => ?_) | refine p_boxI hH rfl (fun g w hg hH => ?_) | refine p_boxL hH rfl (fun g w hg hH => ?_))) | (refine g_cond ?_; (first | refine c_condD rfl (fun hc hp => ?_) (fun hc hp => ?_) | refine c_cond rfl (fun hc => ?_) (fun hc => ?_))) | refine d_start (P := Tryz.prog) hH (fun hH => ?_) | (refine g_any ?_; (first | (apply d_done; exact rfl; kernel_rfl) | (apply d_next; exact rfl; exact rfl; exact rfl; kernel_rfl; (first | (simp only [falses, setB]; exact rfl) | exact rfl); exact hH.sub tSub; (intro w hH; (repeat (first | refine stpO ?_ | (refine g_load ?_; (first | (refine p_loadRF hH rfl rfl (by omega) tO ?_) | (refine p_loadSF hH rfl rfl tO ?_) | (refine p_loadS hH rfl tW ?_))) | (refine p_neF rfl rfl ?_) | (refine p_eqF rfl rfl ?_))); exact r_nil one_end)) | (apply d_split; exact rfl; exact rfl; exact rfl; exact rfl; exact rfl; intro hg; rotate_left; intro hg; rotate_right) | (apply d_all1; exact rfl; kernel_rfl; exact rfl; exact rfl) | (apply d_all2; exact rfl; kernel_rfl; exact rfl; exact rfl; exact rfl; exact rfl) | (apply d_all3; exact rfl; kernel_rfl; exact rfl; exact rfl; exact rfl; exact rfl; exact rfl; exact rfl))) | refine then_end (hH.sub tSub) ?_)
            all_goals refine e_end (H1 := []) (resC2 (ty := 24) hH rfl rfl rfl rfl) hH ⟨?_, rfl⟩ tTk
            all_goals rfl
          · have k2 : decide (z :: zs = []) = false := rfl
            repeat' (first | refine stp ?_ | (refine g_guard ?_; (first | refine r_guardD rfl rfl rfl (fun hg hp => ?_) (fun hg hp => ?_) | refine r_guard rfl rfl rfl (fun hg => ?_) (fun hg => ?_))) | (refine g_load ?_; (first | (refine p_loadRF hH rfl rfl (by omega) tO ?_) | (refine p_loadSF hH rfl rfl tO ?_) | (refine p_loadSB hH rfl rfl tO ?_) | (refine p_loadRB hH rfl rfl (by omega) tO ?_) | (refine p_loadS hH rfl tW ?_))) | (refine g_call ?_; (first | (refine k_call (g := 56) Tryz.func56 rfl rfl hH (EvL.cons (EvK.any rfl) EvL.nil) (h56) tTk tRd (fun v H1 w hT hH => ?_); obtain ⟨rfl, rfl⟩ := hT; simp only [List.nil_append, List.cons_append] at hH) | (refine k_call (g := 106) Tryz.func106 rfl rfl hH (EvL.cons (EvK.any rfl) EvL.nil) (h106) tTk tRd (fun v H1 w hT hH => ?_); obtain ⟨rfl, rfl⟩ := hT; simp only [List.nil_append, List.cons_append] at hH) | (refine p_appendL hH rfl rfl (Reads1.own (v := .nilIface) (Sel.mem tSel)) rfl rfl rfl tO rfl (fun vb vc w hH => ?_)))) | refine n_buildSlice1 hH tE rfl rfl rfl rfl tN (fun g w hg hH => ?_) | (refine r_toInt Tryz.underlying183 Tryz.underlying3 rfl (wrap_small (by omega)) ?_) | (refine p_toTextS hH rfl rfl tO rfl ?_) | (refine p_neF rfl rfl ?_) | (refine p_eqF rfl rfl ?_) | (refine g_store ?_; (first | refine n_store hH rfl tE rfl rfl tN (fun w hH => ?_) | refine n_storeA hH rfl rfl rfl rfl rfl tN (fun w hH => ?_))) | refine n_alloc hH tW (fun g w hg hH => ?_) | (refine g_box ?_; (first | refine p_boxA hH rfl (fun g w hg hH => ?_) | refine p_boxI hH rfl (fun g w hg hH => ?_) | refine p_boxL hH rfl (fun g w hg hH => ?_))) | (refine g_cond ?_; (first | refine c_condD rfl (fun hc hp => ?_) (fun hc hp => ?_) | refine c_cond rfl (fun hc => ?_) (fun hc => ?_))) | refine d_start (P := Tryz.prog) hH (fun hH => ?_) | (refine g_any ?_; (first | (apply d_done; exact rfl; kernel_rfl) | (apply d_next; exact rfl; exact rfl; exact rfl; kernel_rfl; (first | (simp only [falses, setB]; exact rfl) | exact rfl); exact hH.sub tSub; (intro w hH; (repeat (first | refine stpO ?_ | (refine g_load ?_; (first | (refine p_loadRF hH rfl rfl (by omega) tO ?_) | (refine p_loadSF hH rfl rfl tO ?_) | (refine p_loadS hH rfl tW ?_))) | (refine p_neF rfl rfl ?_) | (refine p_eqF rfl rfl ?_))); exact r_nil one_end)) | (apply d_split; exact rfl; exact rfl; exact rfl; exact rfl; exact rfl; intro hg; rotate_left; intro hg; rotate_right) | (apply d_all1; exact rfl; kernel_rfl; exact rfl; exact rfl) | (apply d_all2; exact rfl; kernel_rfl; exact rfl; exact rfl; exact rfl; exact rfl) | (apply d_all3; exact rfl; kernel_rfl; exact rfl; exact rfl; exact rfl; exact rfl; exact rfl; exact rfl))) | refine then_end (hH.sub tSub) ?_)
            all_goals refine e_end (H1 := []) (resC2 (ty := 24) hH rfl rfl rfl rfl) hH ⟨?_, rfl⟩ tTk
            all_goals rfl
    | false =>
      have h106 := c106 x1 (by omega)
      rw [if_neg (by simp)]
      refine callsA_of (args := [_, _]) Tryz.func78 rfl Tryz.ntmps78 (by simp) ?_
      intro w0 hH
      repeat' (first | refine stp ?_ | (refine g_guard ?_; (first | refine r_guardD rfl rfl rfl (fun hg hp => ?_) (fun hg hp => ?_) | refine r_guard rfl rfl rfl (fun hg => ?_) (fun hg => ?_))) | (refine g_load ?_; (first | (refine p_loadRF hH rfl rfl (by omega) tO ?_) | (refine p_loadSF hH rfl rfl tO ?_) | (refine p_loadSB hH rfl rfl tO ?_) | (refine p_loadRB hH rfl rfl (by omega) tO ?_) | (refine p_loadS hH rfl tW ?_))) | (refine g_call ?_; (first | (refine k_call (g := 105) Tryz.func105 rfl rfl hH (EvL.cons (EvK.any rfl) (EvL.cons (EvK.any rfl) EvL.nil)) (h105a) tTk tRd (fun v H1 w hT hH => ?_); obtain ⟨rfl, rfl⟩ := hT; simp only [List.nil_append, List.cons_append] at hH) | (refine k_call (g := 105) Tryz.func105 rfl rfl hH (EvL.cons (EvK.any rfl) (EvL.cons (EvK.any rfl) EvL.nil)) (h105b) tTk tRd (fun v H1 w hT hH => ?_); obtain ⟨rfl, rfl⟩ := hT; simp only [List.nil_append, List.cons_append] at hH) | (refine k_call (g := 106) Tryz.func106 rfl rfl hH (EvL.cons (EvK.any rfl) EvL.nil) (h106) tTk tRd (fun v H1 w hT hH => ?_); obtain ⟨rfl, rfl⟩ := hT; simp only [List.nil_append, List.cons_append] at hH) | (refine k_call (g := 97) Tryz.func97 rfl rfl hH (EvL.cons (EvK.any rfl) (EvL.cons (EvK.any rfl) EvL.nil)) (h97) tTk tRd (fun v H1 w hT hH => ?_); obtain ⟨rfl, rfl⟩ := hT; simp only [List.nil_append, List.cons_append] at hH) | (refine p_appendL hH rfl rfl (Reads1.own (v := .nilIface) (Sel.mem tSel)) rfl rfl rfl tO rfl (fun vb vc w hH => ?_)))) | refine n_buildSlice1 hH tE rfl rfl rfl rfl tN (fun g w hg hH => ?_) | (refine r_toInt Tryz.underlying183 Tryz.underlying3 rfl (wrap_small (by omega)) ?_) | (refine p_toTextS hH rfl rfl tO rfl ?_) | (refine p_neF rfl rfl ?_) | (refine p_eqF rfl rfl ?_) | (refine g_store ?_; (first | refine n_store hH rfl tE rfl rfl tN (fun w hH => ?_) | refine n_storeA hH rfl rfl rfl rfl rfl tN (fun w hH => ?_))) | refine n_alloc hH tW (fun g w hg hH => ?_) | (refine g_box ?_; (first | refine p_boxA hH rfl (fun g w hg hH => ?_) | refine p_boxI hH rfl (fun g w hg hH => ?_) | refine p_boxL hH rfl (fun g w hg hH => ?_))) | (refine g_cond ?_; (first | refine c_condD rfl (fun hc hp => ?_) (fun hc hp => ?_) | refine c_cond rfl (fun hc => ?_) (fun hc => ?_))) | refine d_start (P := Tryz.prog) hH (fun hH => ?_) | (refine g_any ?_; (first | (apply d_done; exact rfl; kernel_rfl) | (apply d_next; exact rfl; exact rfl; exact rfl; kernel_rfl; (first | (simp only [falses, setB]; exact rfl) | exact rfl); exact hH.sub tSub; (intro w hH; (repeat (first | refine stpO ?_ | (refine g_load ?_; (first | (refine p_loadRF hH rfl rfl (by omega) tO ?_) | (refine p_loadSF hH rfl rfl tO ?_) | (refine p_loadS hH rfl tW ?_))) | (refine p_neF rfl rfl ?_) | (refine p_eqF rfl rfl ?_))); exact r_nil one_end)) | (apply d_split; exact rfl; exact rfl; exact rfl; exact rfl; exact rfl; intro hg; rotate_left; intro hg; rotate_right) | (apply d_all1; exact rfl; kernel_rfl; exact rfl; exact rfl) | (apply d_all2; exact rfl; kernel_rfl; exact rfl; exact rfl; exact rfl; exact rfl) | (apply d_all3; exact rfl; kernel_rfl; exact rfl; exact rfl; exact rfl; exact rfl; exact rfl; exact rfl))) | refine then_end (hH.sub tSub) ?_)
      all_goals first
        | (refine e_end (H1 := []) (resC2 (ty := 24) hH rfl rfl rfl rfl) hH ⟨?_, rfl⟩ tTk
           first
           | (rw [if_neg (by omega)]; rfl)
           | (rw [if_pos (by omega)]; dsimp only; rw [if_pos (by omega)]; rfl))
        | skip
      rw [if_pos (by omega)]
      dsimp only
      rw [if_neg (by omega)]
      refine c_loopS (fun i : Nat => [(4, .pointer (some ⟨g, 0, none⟩)), (10, .string ⟨y2.toArray⟩), (15, .int .i64 ((Hp.versionP x1).1 : Int)), (16, .int .i64 ((Hp.versionP x1).2 : Int)), (17, .int .i64 (n : Int)), (19, .int .i64 (i : Int))]) (fun i w => i ≤ y2.length ∧ (y2.take i).all Hp.vcharP = true ∧ Holds w0 (bl []) w [] [.pt g 24 [.bool false, .string ⟨#[]⟩, .string ⟨#[]⟩, .int .i64 0, .int .i64 0, .string ⟨#[]⟩, .slice none 0 0]]) (fun i => y2.length - i) 0 tAg ⟨by omega, rfl, hH⟩ (fun i f w hI => ?_)
      clear hH
      obtain ⟨hi, hall, hH⟩ := hI
      by_cases hlt : i < y2.length
      · have k1 : decide ((i : Int) < (y2.length : Int)) = true := by rw [decide_eq_true_eq]; omega
        have e1 : ((i : Int)).toNat = i := by omega
        have hsucc : (y2.take (i + 1)).all Hp.vcharP = Hp.vcharP (y2.getD ((i : Int)).toNat 0) := by
          rw [List.take_succ_eq_append_getElem hlt, List.all_append, hall, e1]
          simp [List.getD, List.getElem?_eq_getElem hlt]
        have hiff := vchar_iff (y2.getD ((i : Int)).toNat 0)
        repeat' (first | refine stp ?_ | (refine g_guard ?_; (first | refine r_guardD rfl rfl rfl (fun hg hp => ?_) (fun hg hp => ?_) | refine r_guard rfl rfl rfl (fun hg => ?_) (fun hg => ?_))) | (refine g_load ?_; (first | (refine p_loadRF hH rfl rfl (by omega) tO ?_) | (refine p_loadSF hH rfl rfl tO ?_) | (refine p_loadSB hH rfl rfl tO ?_) | (refine p_loadRB hH rfl rfl (by omega) tO ?_) | (refine p_loadS hH rfl tW ?_))) | (refine g_call ?_; (first | (refine p_appendL hH rfl rfl (Reads1.own (v := .nilIface) (Sel.mem tSel)) rfl rfl rfl tO rfl (fun vb vc w hH => ?_)))) | refine n_buildSlice1 hH tE rfl rfl rfl rfl tN (fun g w hg hH => ?_) | (refine r_toInt Tryz.underlying183 Tryz.underlying3 rfl (wrap_small (by omega)) ?_) | (refine p_toTextS hH rfl rfl tO rfl ?_) | (refine p_neF rfl rfl ?_) | (refine p_eqF rfl rfl ?_) | (refine g_store ?_; (first | refine n_store hH rfl tE rfl rfl tN (fun w hH => ?_) | refine n_storeA hH rfl rfl rfl rfl rfl tN (fun w hH => ?_))) | refine n_alloc hH tW (fun g w hg hH => ?_) | (refine g_box ?_; (first | refine p_boxA hH rfl (fun g w hg hH => ?_) | refine p_boxI hH rfl (fun g w hg hH => ?_) | refine p_boxL hH rfl (fun g w hg hH => ?_))) | (refine g_cond ?_; (first | refine c_condD rfl (fun hc hp => ?_) (fun hc hp => ?_) | refine c_cond rfl (fun hc => ?_) (fun hc => ?_))) | refine d_start (P := Tryz.prog) hH (fun hH => ?_) | (refine g_any ?_; (first | (apply d_done; exact rfl; kernel_rfl) | (apply d_next; exact rfl; exact rfl; exact rfl; kernel_rfl; (first | (simp only [falses, setB]; exact rfl) | exact rfl); exact hH.sub tSub; (intro w hH; (repeat (first | refine stpO ?_ | (refine g_load ?_; (first | (refine p_loadRF hH rfl rfl (by omega) tO ?_) | (refine p_loadSF hH rfl rfl tO ?_) | (refine p_loadS hH rfl tW ?_))) | (refine p_neF rfl rfl ?_) | (refine p_eqF rfl rfl ?_))); exact r_nil one_end)) | (apply d_split; exact rfl; exact rfl; exact rfl; exact rfl; exact rfl; intro hg; rotate_left; intro hg; rotate_right) | (apply d_all1; exact rfl; kernel_rfl; exact rfl; exact rfl) | (apply d_all2; exact rfl; kernel_rfl; exact rfl; exact rfl; exact rfl; exact rfl) | (apply d_all3; exact rfl; kernel_rfl; exact rfl; exact rfl; exact rfl; exact rfl; exact rfl; exact rfl))) | refine then_end (hH.sub tSub) ?_)
        all_goals first
          | (refine ⟨i + 1, _, _, by omega, rfl, tAg, by omega, ?_, hH⟩
             rw [hsucc]; apply hiff.2; omega)
          | (refine e_end (H1 := []) (resC2 (ty := 24) hH rfl rfl rfl rfl) hH ⟨?_, rfl⟩ tTk
             have hn : y2.all Hp.vcharP = false := by
               rw [← Bool.not_eq_true]; intro ha
               have h2 : (y2.take (i + 1)).all Hp.vcharP = true := List.all_eq_true.2 fun z hz => List.all_eq_true.1 ha z (List.mem_of_mem_take hz)
               rw [hsucc, hiff] at h2; omega
             rw [if_pos hn]; rfl)
      · have k1 : decide ((i : Int) < (y2.length : Int)) = false := by rw [decide_eq_false_iff_not]; omega
        have hi' : i = y2.length := by omega
        subst hi'
        rw [List.take_length] at hall
        rw [if_neg (by rw [hall]; simp)]
        repeat' (first | refine stp ?_ | (refine g_guard ?_; (first | refine r_guardD rfl rfl rfl (fun hg hp => ?_) (fun hg hp => ?_) | refine r_guard rfl rfl rfl (fun hg => ?_) (fun hg => ?_))) | (refine g_load ?_; (first | (refine p_loadRF hH rfl rfl (by omega) tO ?_) | (refine p_loadSF hH rfl rfl tO ?_) | (refine p_loadSB hH rfl rfl tO ?_) | (refine p_loadRB hH rfl rfl (by omega) tO ?_) | (refine p_loadS hH rfl tW ?_))) | (refine g_call ?_; (first | (refine p_appendL hH rfl rfl (Reads1.own (v := .nilIface) (Sel.mem tSel)) rfl rfl rfl tO rfl (fun vb vc w hH => ?_)))) | refine n_buildSlice1 hH tE rfl rfl rfl rfl tN (fun g w hg hH => ?_) | (refine r_toInt Tryz.underlying183 Tryz.underlying3 rfl (wrap_small (by omega)) ?_) | (refine p_toTextS hH rfl rfl tO rfl ?_) | (refine p_neF rfl rfl ?_) | (refine p_eqF rfl rfl ?_) | (refine g_store ?_; (first | refine n_store hH rfl tE rfl rfl tN (fun w hH => ?_) | refine n_storeA hH rfl rfl rfl rfl rfl tN (fun w hH => ?_))) | refine n_alloc hH tW (fun g w hg hH => ?_) | (refine g_box ?_; (first | refine p_boxA hH rfl (fun g w hg hH => ?_) | refine p_boxI hH rfl (fun g w hg hH => ?_) | refine p_boxL hH rfl (fun g w hg hH => ?_))) | (refine g_cond ?_; (first | refine c_condD rfl (fun hc hp => ?_) (fun hc hp => ?_) | refine c_cond rfl (fun hc => ?_) (fun hc => ?_))) | refine d_start (P := Tryz.prog) hH (fun hH => ?_) | (refine g_any ?_; (first | (apply d_done; exact rfl; kernel_rfl) | (apply d_next; exact rfl; exact rfl; exact rfl; kernel_rfl; (first | (simp only [falses, setB]; exact rfl) | exact rfl); exact hH.sub tSub; (intro w hH; (repeat (first | refine stpO ?_ | (refine g_load ?_; (first | (refine p_loadRF hH rfl rfl (by omega) tO ?_) | (refine p_loadSF hH rfl rfl tO ?_) | (refine p_loadS hH rfl tW ?_))) | (refine p_neF rfl rfl ?_) | (refine p_eqF rfl rfl ?_))); exact r_nil one_end)) | (apply d_split; exact rfl; exact rfl; exact rfl; exact rfl; exact rfl; intro hg; rotate_left; intro hg; rotate_right) | (apply d_all1; exact rfl; kernel_rfl; exact rfl; exact rfl) | (apply d_all2; exact rfl; kernel_rfl; exact rfl; exact rfl; exact rfl; exact rfl) | (apply d_all3; exact rfl; kernel_rfl; exact rfl; exact rfl; exact rfl; exact rfl; exact rfl; exact rfl))) | refine then_end (hH.sub tSub) ?_)
        all_goals refine e_end (H1 := []) (resC2 (ty := 24) hH rfl rfl rfl rfl) hH ⟨?_, rfl⟩ tTk
        all_goals rfl
  · have e : (xb = false ∨ yb = false) := by
      cases xb <;> cases yb <;> simp at hb ⊢
    rw [if_pos e]
    cases xb <;> cases yb <;> first | (exact absurd ⟨rfl, rfl⟩ hb) | skip
    all_goals (refine callsA_of (args := [_, _]) Tryz.func78 rfl Tryz.ntmps78 (by simp) ?_; intro w0 hH)
    all_goals repeat' (first | refine stp ?_ | (refine g_guard ?_; (first | refine r_guardD rfl rfl rfl (fun hg hp => ?_) (fun hg hp => ?_) | refine r_guard rfl rfl rfl (fun hg => ?_) (fun hg => ?_))) | (refine g_load ?_; (first | (refine p_loadRF hH rfl rfl (by omega) tO ?_) | (refine p_loadSF hH rfl rfl tO ?_) | (refine p_loadSB hH rfl rfl tO ?_) | (refine p_loadRB hH rfl rfl (by omega) tO ?_) | (refine p_loadS hH rfl tW ?_))) | (refine g_call ?_; (first | (refine k_call (g := 105) Tryz.func105 rfl rfl hH (EvL.cons (EvK.any rfl) (EvL.cons (EvK.any rfl) EvL.nil)) (h105a) tTk tRd (fun v H1 w hT hH => ?_); obtain ⟨rfl, rfl⟩ := hT; simp only [List.nil_append, List.cons_append] at hH) | (refine k_call (g := 105) Tryz.func105 rfl rfl hH (EvL.cons (EvK.any rfl) (EvL.cons (EvK.any rfl) EvL.nil)) (h105b) tTk tRd (fun v H1 w hT hH => ?_); obtain ⟨rfl, rfl⟩ := hT; simp only [List.nil_append, List.cons_append] at hH) | (refine p_appendL hH rfl rfl (Reads1.own (v := .nilIface) (Sel.mem tSel)) rfl rfl rfl tO rfl (fun vb vc w hH => ?_)))) | refine n_buildSlice1 hH tE rfl rfl rfl rfl tN (fun g w hg hH => ?_) | (refine r_toInt Tryz.underlying183 Tryz.underlying3 rfl (wrap_small (by omega)) ?_) | (refine p_toTextS hH rfl rfl tO rfl ?_) | (refine p_neF rfl rfl ?_) | (refine p_eqF rfl rfl ?_) | (refine g_store ?_; (first | refine n_store hH rfl tE rfl rfl tN (fun w hH => ?_) | refine n_storeA hH rfl rfl rfl rfl rfl tN (fun w hH => ?_))) | refine n_alloc hH tW (fun g w hg hH => ?_) | (refine g_box ?_; (first | refine p_boxA hH rfl (fun g w hg hH => ?_) | refine p_boxI hH rfl (fun g w hg hH => ?_) | refine p_boxL hH rfl (fun g w hg hH => ?_))) | (refine g_cond ?_; (first | refine c_condD rfl (fun hc hp => ?_) (fun hc hp => ?_) | refine c_cond rfl (fun hc => ?_) (fun hc => ?_))) | refine d_start (P := Tryz.prog) hH (fun hH => ?_) | (refine g_any ?_; (first | (apply d_done; exact rfl; kernel_rfl) | (apply d_next; exact rfl; exact rfl; exact rfl; kernel_rfl; (first | (simp only [falses, setB]; exact rfl) | exact rfl); exact hH.sub tSub; (intro w hH; (repeat (first | refine stpO ?_ | (refine g_load ?_; (first | (refine p_loadRF hH rfl rfl (by omega) tO ?_) | (refine p_loadSF hH rfl rfl tO ?_) | (refine p_loadS hH rfl tW ?_))) | (refine p_neF rfl rfl ?_) | (refine p_eqF rfl rfl ?_))); exact r_nil one_end)) | (apply d_split; exact rfl; exact rfl; exact rfl; exact rfl; exact rfl; intro hg; rotate_left; intro hg; rotate_right) | (apply d_all1; exact rfl; kernel_rfl; exact rfl; exact rfl) | (apply d_all2; exact rfl; kernel_rfl; exact rfl; exact rfl; exact rfl; exact rfl) | (apply d_all3; exact rfl; kernel_rfl; exact rfl; exact rfl; exact rfl; exact rfl; exact rfl; exact rfl))) | refine then_end (hH.sub tSub) ?_)
    all_goals refine e_end (H1 := []) (resC2 (ty := 24) hH rfl rfl rfl rfl) hH ⟨?_, rfl⟩ tTk
    all_goals rfl

end Go.Proofs.YtiofekhdicfmoaaGreatDoor

namespace Go.Proofs.YtiofekhdicfmoaaGreatDoor
open Go Go.Hr
attribute [local irreducible] Go.wpList Go.Code.wp Go.Calls Go.Hr.CallsA Go.wpAnyH Go.callFunc Go.callMethod Go.Instr.typeAssert Go.Sem.run
set_option maxHeartbeats 4000000
set_option linter.all false

set_option maxRecDepth 8000
open Go.RowKit
theorem firstR_fields (r : Bool) (s : List UInt8) : (Hp.firstR r s).1.fields = [] := by
  unfold Hp.firstR
  dsimp only
  split
  · rfl
  split
  · split
    · rfl
    split <;> rfl
  · split
    · rfl
    split
    · rfl
    split <;> rfl
def LineT (x : Hp.HeadP × Bool × Nat) (v : Value) (H' : List Own) : Prop :=
  ∃ ga gc, v = .tuple (List.toArray [headV x.1 (slF x.1 ga gc), .bool x.2.1, .int .i64 (x.2.2 : Int)]) ∧ H' = [fldsO x.1 (slF x.1 ga gc)]
theorem c61 (h : Hp.HeadP) (n : Nat) (s : List UInt8) (fa : Option Addr) (fc : Nat) (hf : h.fields.length ≤ 100) (hs : s.length ≤ 1099511627776) :
    CallsA Tryz.prog 61 (List.toArray [headV h (slF h fa fc), .int .i64 (n : Int), .string ⟨s.toArray⟩]) [] [fldsO h (slF h fa fc)] (LineT (Hp.lineR h n s)) := by
  unfold Hp.lineR LineT
  obtain ⟨rq, me, ta, mi, st, re, fs⟩ := h
  dsimp only [slF, headV, fldsO] at hf ⊢
  rcases me with _ | ⟨z, zs⟩
  · by_cases h0 : st = 0
    · subst h0
      have hb : Hp.begunR { request := rq, method := [], target := ta, minor := mi, status := 0, reason := re, fields := fs } = false := rfl
      rw [if_pos hb]
      have h78 := c78 rq s hs
      have hff := firstR_fields rq s
      generalize Hp.firstR rq s = fr at *
      obtain ⟨⟨rq', me', ta', mi', st', re', fs'⟩, e⟩ := fr
      dsimp only at hff h78 ⊢
      subst hff
      by_cases hc : rq = true ∧ s = [] ∧ n ≤ 4
      · rw [if_pos hc]
        obtain ⟨rfl, rfl, hn⟩ := hc
        have k1 : decide ((n : Int) ≤ 4) = true := by rw [decide_eq_true_eq]; omega
        refine callsA_of (args := [_, _, _]) Tryz.func61 rfl Tryz.ntmps61 (by simp) ?_
        intro w0 hH
        repeat' (first | refine stp ?_ | (refine g_guard ?_; (first | refine r_guardD rfl rfl rfl (fun hg hp => ?_) (fun hg hp => ?_) | refine r_guard rfl rfl rfl (fun hg => ?_) (fun hg => ?_))) | (refine g_load ?_; (first | (refine p_loadRF hH rfl rfl (by omega) tO ?_) | (refine p_loadSF hH rfl rfl tO ?_) | (refine p_loadSB hH rfl rfl tO ?_) | (refine p_loadRB hH rfl rfl (by omega) tO ?_) | (refine p_loadS hH rfl tW ?_))) | (refine g_call ?_; (first | (refine p_appendL hH rfl rfl (Reads1.own (v := .nilIface) (Sel.mem tSel)) rfl rfl rfl tO rfl (fun vb vc w hH => ?_)))) | refine n_buildSlice1 hH tE rfl rfl rfl rfl tN (fun g w hg hH => ?_) | (refine r_toInt Tryz.underlying183 Tryz.underlying3 rfl (wrap_small (by omega)) ?_) | (refine p_toTextS hH rfl rfl tO rfl ?_) | (refine p_neF rfl rfl ?_) | (refine p_eqF rfl rfl ?_) | (refine g_store ?_; (first | refine n_store hH rfl tE rfl rfl tN (fun w hH => ?_) | refine n_storeA hH rfl rfl rfl rfl rfl tN (fun w hH => ?_))) | refine n_alloc hH tW (fun g w hg hH => ?_) | (refine g_box ?_; (first | refine p_boxA hH rfl (fun g w hg hH => ?_) | refine p_boxI hH rfl (fun g w hg hH => ?_) | refine p_boxL hH rfl (fun g w hg hH => ?_))) | (refine g_cond ?_; (first | refine c_condD rfl (fun hc hp => ?_) (fun hc hp => ?_) | refine c_cond rfl (fun hc => ?_) (fun hc => ?_))) | refine d_start (P := Tryz.prog) hH (fun hH => ?_) | (refine g_any ?_; (first | (apply d_done; exact rfl; kernel_rfl) | (apply d_next; exact rfl; exact rfl; exact rfl; kernel_rfl; (first | (simp only [falses, setB]; exact rfl) | exact rfl); exact hH.sub tSub; (intro w hH; (repeat (first | refine stpO ?_ | (refine g_load ?_; (first | (refine p_loadRF hH rfl rfl (by omega) tO ?_) | (refine p_loadSF hH rfl rfl tO ?_) | (refine p_loadS hH rfl tW ?_))) | (refine p_neF rfl rfl ?_) | (refine p_eqF rfl rfl ?_))); exact r_nil one_end)) | (apply d_split; exact rfl; exact rfl; exact rfl; exact rfl; exact rfl; intro hg; rotate_left; intro hg; rotate_right) | (apply d_all1; exact rfl; kernel_rfl; exact rfl; exact rfl) | (apply d_all2; exact rfl; kernel_rfl; exact rfl; exact rfl; exact rfl; exact rfl) | (apply d_all3; exact rfl; kernel_rfl; exact rfl; exact rfl; exact rfl; exact rfl; exact rfl; exact rfl))) | refine then_end (hH.sub tSub) ?_)
        all_goals refine e_end (H1 := [fldsO _ (.slice fa fs.length fc)]) (resC3 (ty := 24) hH rfl rfl rfl rfl rfl) hH ⟨fa, fc, ?_, rfl⟩ tTk
        all_goals rfl
      · rw [if_neg hc]
        cases rq with
        | false =>
          refine callsA_of (args := [_, _, _]) Tryz.func61 rfl Tryz.ntmps61 (by simp) ?_
          intro w0 hH
          repeat' (first | refine stp ?_ | (refine g_guard ?_; (first | refine r_guardD rfl rfl rfl (fun hg hp => ?_) (fun hg hp => ?_) | refine r_guard rfl rfl rfl (fun hg => ?_) (fun hg => ?_))) | (refine g_load ?_; (first | (refine p_loadRF hH rfl rfl (by omega) tO ?_) | (refine p_loadSF hH rfl rfl tO ?_) | (refine p_loadSB hH rfl rfl tO ?_) | (refine p_loadRB hH rfl rfl (by omega) tO ?_) | (refine p_loadS hH rfl tW ?_))) | (refine g_call ?_; (first | (refine k_call (g := 78) Tryz.func78 rfl rfl hH (EvL.cons (EvK.any rfl) (EvL.cons (EvK.any rfl) EvL.nil)) (h78) tTk tRd (fun v H1 w hT hH => ?_); obtain ⟨rfl, rfl⟩ := hT; simp only [List.nil_append, List.cons_append] at hH) | (refine p_appendL hH rfl rfl (Reads1.own (v := .nilIface) (Sel.mem tSel)) rfl rfl rfl tO rfl (fun vb vc w hH => ?_)))) | refine n_buildSlice1 hH tE rfl rfl rfl rfl tN (fun g w hg hH => ?_) | (refine r_toInt Tryz.underlying183 Tryz.underlying3 rfl (wrap_small (by omega)) ?_) | (refine p_toTextS hH rfl rfl tO rfl ?_) | (refine p_neF rfl rfl ?_) | (refine p_eqF rfl rfl ?_) | (refine g_store ?_; (first | refine n_store hH rfl tE rfl rfl tN (fun w hH => ?_) | refine n_storeA hH rfl rfl rfl rfl rfl tN (fun w hH => ?_))) | refine n_alloc hH tW (fun g w hg hH => ?_) | (refine g_box ?_; (first | refine p_boxA hH rfl (fun g w hg hH => ?_) | refine p_boxI hH rfl (fun g w hg hH => ?_) | refine p_boxL hH rfl (fun g w hg hH => ?_))) | (refine g_cond ?_; (first | refine c_condD rfl (fun hc hp => ?_) (fun hc hp => ?_) | refine c_cond rfl (fun hc => ?_) (fun hc => ?_))) | refine d_start (P := Tryz.prog) hH (fun hH => ?_) | (refine g_any ?_; (first | (apply d_done; exact rfl; kernel_rfl) | (apply d_next; exact rfl; exact rfl; exact rfl; kernel_rfl; (first | (simp only [falses, setB]; exact rfl) | exact rfl); exact hH.sub tSub; (intro w hH; (repeat (first | refine stpO ?_ | (refine g_load ?_; (first | (refine p_loadRF hH rfl rfl (by omega) tO ?_) | (refine p_loadSF hH rfl rfl tO ?_) | (refine p_loadS hH rfl tW ?_))) | (refine p_neF rfl rfl ?_) | (refine p_eqF rfl rfl ?_))); exact r_nil one_end)) | (apply d_split; exact rfl; exact rfl; exact rfl; exact rfl; exact rfl; intro hg; rotate_left; intro hg; rotate_right) | (apply d_all1; exact rfl; kernel_rfl; exact rfl; exact rfl) | (apply d_all2; exact rfl; kernel_rfl; exact rfl; exact rfl; exact rfl; exact rfl) | (apply d_all3; exact rfl; kernel_rfl; exact rfl; exact rfl; exact rfl; exact rfl; exact rfl; exact rfl))) | refine then_end (hH.sub tSub) ?_)
          all_goals refine e_end (H1 := [.sl NIL 37 2 0 []]) (resC3 (ty := 24) hH rfl rfl rfl rfl rfl) (hH.nil_ 37 2) ⟨none, 0, ?_, rfl⟩ tTk
          all_goals rfl
        | true =>
          rcases s with _ | ⟨y, ys⟩
          · have k1 : decide ((n : Int) ≤ 4) = false := by rw [decide_eq_false_iff_not]; intro k; exact hc ⟨rfl, rfl, by omega⟩
            refine callsA_of (args := [_, _, _]) Tryz.func61 rfl Tryz.ntmps61 (by simp) ?_
            intro w0 hH
            repeat' (first | refine stp ?_ | (refine g_guard ?_; (first | refine r_guardD rfl rfl rfl (fun hg hp => ?_) (fun hg hp => ?_) | refine r_guard rfl rfl rfl (fun hg => ?_) (fun hg => ?_))) | (refine g_load ?_; (first | (refine p_loadRF hH rfl rfl (by omega) tO ?_) | (refine p_loadSF hH rfl rfl tO ?_) | (refine p_loadSB hH rfl rfl tO ?_) | (refine p_loadRB hH rfl rfl (by omega) tO ?_) | (refine p_loadS hH rfl tW ?_))) | (refine g_call ?_; (first | (refine k_call (g := 78) Tryz.func78 rfl rfl hH (EvL.cons (EvK.any rfl) (EvL.cons (EvK.any rfl) EvL.nil)) (h78) tTk tRd (fun v H1 w hT hH => ?_); obtain ⟨rfl, rfl⟩ := hT; simp only [List.nil_append, List.cons_append] at hH) | (refine p_appendL hH rfl rfl (Reads1.own (v := .nilIface) (Sel.mem tSel)) rfl rfl rfl tO rfl (fun vb vc w hH => ?_)))) | refine n_buildSlice1 hH tE rfl rfl rfl rfl tN (fun g w hg hH => ?_) | (refine r_toInt Tryz.underlying183 Tryz.underlying3 rfl (wrap_small (by omega)) ?_) | (refine p_toTextS hH rfl rfl tO rfl ?_) | (refine p_neF rfl rfl ?_) | (refine p_eqF rfl rfl ?_) | (refine g_store ?_; (first | refine n_store hH rfl tE rfl rfl tN (fun w hH => ?_) | refine n_storeA hH rfl rfl rfl rfl rfl tN (fun w hH => ?_))) | refine n_alloc hH tW (fun g w hg hH => ?_) | (refine g_box ?_; (first | refine p_boxA hH rfl (fun g w hg hH => ?_) | refine p_boxI hH rfl (fun g w hg hH => ?_) | refine p_boxL hH rfl (fun g w hg hH => ?_))) | (refine g_cond ?_; (first | refine c_condD rfl (fun hc hp => ?_) (fun hc hp => ?_) | refine c_cond rfl (fun hc => ?_) (fun hc => ?_))) | refine d_start (P := Tryz.prog) hH (fun hH => ?_) | (refine g_any ?_; (first | (apply d_done; exact rfl; kernel_rfl) | (apply d_next; exact rfl; exact rfl; exact rfl; kernel_rfl; (first | (simp only [falses, setB]; exact rfl) | exact rfl); exact hH.sub tSub; (intro w hH; (repeat (first | refine stpO ?_ | (refine g_load ?_; (first | (refine p_loadRF hH rfl rfl (by omega) tO ?_) | (refine p_loadSF hH rfl rfl tO ?_) | (refine p_loadS hH rfl tW ?_))) | (refine p_neF rfl rfl ?_) | (refine p_eqF rfl rfl ?_))); exact r_nil one_end)) | (apply d_split; exact rfl; exact rfl; exact rfl; exact rfl; exact rfl; intro hg; rotate_left; intro hg; rotate_right) | (apply d_all1; exact rfl; kernel_rfl; exact rfl; exact rfl) | (apply d_all2; exact rfl; kernel_rfl; exact rfl; exact rfl; exact rfl; exact rfl) | (apply d_all3; exact rfl; kernel_rfl; exact rfl; exact rfl; exact rfl; exact rfl; exact rfl; exact rfl))) | refine then_end (hH.sub tSub) ?_)
            all_goals refine e_end (H1 := [.sl NIL 37 2 0 []]) (resC3 (ty := 24) hH rfl rfl rfl rfl rfl) (hH.nil_ 37 2) ⟨none, 0, ?_, rfl⟩ tTk
            all_goals rfl
          · have k1 : decide (y :: ys = []) = false := rfl
            refine callsA_of (args := [_, _, _]) Tryz.func61 rfl Tryz.ntmps61 (by simp) ?_
            intro w0 hH
            repeat' (first | refine stp ?_ | (refine g_guard ?_; (first | refine r_guardD rfl rfl rfl (fun hg hp => ?_) (fun hg hp => ?_) | refine r_guard rfl rfl rfl (fun hg => ?_) (fun hg => ?_))) | (refine g_load ?_; (first | (refine p_loadRF hH rfl rfl (by omega) tO ?_) | (refine p_loadSF hH rfl rfl tO ?_) | (refine p_loadSB hH rfl rfl tO ?_) | (refine p_loadRB hH rfl rfl (by omega) tO ?_) | (refine p_loadS hH rfl tW ?_))) | (refine g_call ?_; (first | (refine k_call (g := 78) Tryz.func78 rfl rfl hH (EvL.cons (EvK.any rfl) (EvL.cons (EvK.any rfl) EvL.nil)) (h78) tTk tRd (fun v H1 w hT hH => ?_); obtain ⟨rfl, rfl⟩ := hT; simp only [List.nil_append, List.cons_append] at hH) | (refine p_appendL hH rfl rfl (Reads1.own (v := .nilIface) (Sel.mem tSel)) rfl rfl rfl tO rfl (fun vb vc w hH => ?_)))) | refine n_buildSlice1 hH tE rfl rfl rfl rfl tN (fun g w hg hH => ?_) | (refine r_toInt Tryz.underlying183 Tryz.underlying3 rfl (wrap_small (by omega)) ?_) | (refine p_toTextS hH rfl rfl tO rfl ?_) | (refine p_neF rfl rfl ?_) | (refine p_eqF rfl rfl ?_) | (refine g_store ?_; (first | refine n_store hH rfl tE rfl rfl tN (fun w hH => ?_) | refine n_storeA hH rfl rfl rfl rfl rfl tN (fun w hH => ?_))) | refine n_alloc hH tW (fun g w hg hH => ?_) | (refine g_box ?_; (first | refine p_boxA hH rfl (fun g w hg hH => ?_) | refine p_boxI hH rfl (fun g w hg hH => ?_) | refine p_boxL hH rfl (fun g w hg hH => ?_))) | (refine g_cond ?_; (first | refine c_condD rfl (fun hc hp => ?_) (fun hc hp => ?_) | refine c_cond rfl (fun hc => ?_) (fun hc => ?_))) | refine d_start (P := Tryz.prog) hH (fun hH => ?_) | (refine g_any ?_; (first | (apply d_done; exact rfl; kernel_rfl) | (apply d_next; exact rfl; exact rfl; exact rfl; kernel_rfl; (first | (simp only [falses, setB]; exact rfl) | exact rfl); exact hH.sub tSub; (intro w hH; (repeat (first | refine stpO ?_ | (refine g_load ?_; (first | (refine p_loadRF hH rfl rfl (by omega) tO ?_) | (refine p_loadSF hH rfl rfl tO ?_) | (refine p_loadS hH rfl tW ?_))) | (refine p_neF rfl rfl ?_) | (refine p_eqF rfl rfl ?_))); exact r_nil one_end)) | (apply d_split; exact rfl; exact rfl; exact rfl; exact rfl; exact rfl; intro hg; rotate_left; intro hg; rotate_right) | (apply d_all1; exact rfl; kernel_rfl; exact rfl; exact rfl) | (apply d_all2; exact rfl; kernel_rfl; exact rfl; exact rfl; exact rfl; exact rfl) | (apply d_all3; exact rfl; kernel_rfl; exact rfl; exact rfl; exact rfl; exact rfl; exact rfl; exact rfl))) | refine then_end (hH.sub tSub) ?_)
            all_goals refine e_end (H1 := [.sl NIL 37 2 0 []]) (resC3 (ty := 24) hH rfl rfl rfl rfl rfl) (hH.nil_ 37 2) ⟨none, 0, ?_, rfl⟩ tTk
            all_goals rfl
    have hb : Hp.begunR { request := rq, method := [], target := ta, minor := mi, status := st, reason := re, fields := fs } = true := by simp [Hp.begunR, h0]
    have kst : decide (st ≠ 0) = true := by simpa using h0
    have kst2 : (!decide (st ≠ 0)) = false := by rw [kst]; rfl
    rw [if_neg (by rw [hb]; simp)]
    cases s with
    | nil =>
      rw [if_pos rfl]
      refine callsA_of (args := [_, _, _]) Tryz.func61 rfl Tryz.ntmps61 (by simp) ?_
      intro w0 hH
      repeat' (first | refine stp ?_ | (refine g_guard ?_; (first | refine r_guardD rfl rfl rfl (fun hg hp => ?_) (fun hg hp => ?_) | refine r_guard rfl rfl rfl (fun hg => ?_) (fun hg => ?_))) | (refine g_load ?_; (first | (refine p_loadRF hH rfl rfl (by omega) tO ?_) | (refine p_loadSF hH rfl rfl tO ?_) | (refine p_loadSB hH rfl rfl tO ?_) | (refine p_loadRB hH rfl rfl (by omega) tO ?_) | (refine p_loadS hH rfl tW ?_))) | (refine g_call ?_; (first | (refine p_appendL hH rfl rfl (Reads1.own (v := .nilIface) (Sel.mem tSel)) rfl rfl rfl tO rfl (fun vb vc w hH => ?_)))) | refine n_buildSlice1 hH tE rfl rfl rfl rfl tN (fun g w hg hH => ?_) | (refine r_toInt Tryz.underlying183 Tryz.underlying3 rfl (wrap_small (by omega)) ?_) | (refine p_toTextS hH rfl rfl tO rfl ?_) | (refine p_neF rfl rfl ?_) | (refine p_eqF rfl rfl ?_) | (refine g_store ?_; (first | refine n_store hH rfl tE rfl rfl tN (fun w hH => ?_) | refine n_storeA hH rfl rfl rfl rfl rfl tN (fun w hH => ?_))) | refine n_alloc hH tW (fun g w hg hH => ?_) | (refine g_box ?_; (first | refine p_boxA hH rfl (fun g w hg hH => ?_) | refine p_boxI hH rfl (fun g w hg hH => ?_) | refine p_boxL hH rfl (fun g w hg hH => ?_))) | (refine g_cond ?_; (first | refine c_condD rfl (fun hc hp => ?_) (fun hc hp => ?_) | refine c_cond rfl (fun hc => ?_) (fun hc => ?_))) | refine d_start (P := Tryz.prog) hH (fun hH => ?_) | (refine g_any ?_; (first | (apply d_done; exact rfl; kernel_rfl) | (apply d_next; exact rfl; exact rfl; exact rfl; kernel_rfl; (first | (simp only [falses, setB]; exact rfl) | exact rfl); exact hH.sub tSub; (intro w hH; (repeat (first | refine stpO ?_ | (refine g_load ?_; (first | (refine p_loadRF hH rfl rfl (by omega) tO ?_) | (refine p_loadSF hH rfl rfl tO ?_) | (refine p_loadS hH rfl tW ?_))) | (refine p_neF rfl rfl ?_) | (refine p_eqF rfl rfl ?_))); exact r_nil one_end)) | (apply d_split; exact rfl; exact rfl; exact rfl; exact rfl; exact rfl; intro hg; rotate_left; intro hg; rotate_right) | (apply d_all1; exact rfl; kernel_rfl; exact rfl; exact rfl) | (apply d_all2; exact rfl; kernel_rfl; exact rfl; exact rfl; exact rfl; exact rfl) | (apply d_all3; exact rfl; kernel_rfl; exact rfl; exact rfl; exact rfl; exact rfl; exact rfl; exact rfl))) | refine then_end (hH.sub tSub) ?_)
      all_goals refine e_end (H1 := [fldsO _ (.slice fa fs.length fc)]) (resC3 (ty := 24) hH rfl rfl rfl rfl rfl) hH ⟨fa, fc, ?_, rfl⟩ tTk
      all_goals rfl
    | cons x r =>
      rw [if_neg (by simp)]
      have k9 : decide (x :: r = []) = false := rfl
      have h79 := c79 x r hs
      generalize Hp.fieldR (x :: r) = fr at *
      obtain ⟨⟨nm, vl⟩, e⟩ := fr
      dsimp only at h79 ⊢
      refine callsA_of (args := [_, _, _]) Tryz.func61 rfl Tryz.ntmps61 (by simp) ?_
      intro w0 hH
      repeat' (first | refine stp ?_ | (refine g_guard ?_; (first | refine r_guardD rfl rfl rfl (fun hg hp => ?_) (fun hg hp => ?_) | refine r_guard rfl rfl rfl (fun hg => ?_) (fun hg => ?_))) | (refine g_load ?_; (first | (refine p_loadRF hH rfl rfl (by omega) tO ?_) | (refine p_loadSF hH rfl rfl tO ?_) | (refine p_loadSB hH rfl rfl tO ?_) | (refine p_loadRB hH rfl rfl (by omega) tO ?_) | (refine p_loadS hH rfl tW ?_))) | (refine g_call ?_; (first | (refine k_call (g := 79) Tryz.func79 rfl rfl hH (EvL.cons (EvK.any rfl) EvL.nil) (h79) tTk tRd (fun v H1 w hT hH => ?_); obtain ⟨rfl, rfl⟩ := hT; simp only [List.nil_append, List.cons_append] at hH) | (refine p_appendL hH rfl rfl (Reads1.own (v := .nilIface) (Sel.mem tSel)) rfl rfl rfl tO rfl (fun vb vc w hH => ?_)))) | refine n_buildSlice1 hH tE rfl rfl rfl rfl tN (fun g w hg hH => ?_) | (refine r_toInt Tryz.underlying183 Tryz.underlying3 rfl (wrap_small (by omega)) ?_) | (refine p_toTextS hH rfl rfl tO rfl ?_) | (refine p_neF rfl rfl ?_) | (refine p_eqF rfl rfl ?_) | (refine g_store ?_; (first | refine n_store hH rfl tE rfl rfl tN (fun w hH => ?_) | refine n_storeA hH rfl rfl rfl rfl rfl tN (fun w hH => ?_))) | refine n_alloc hH tW (fun g w hg hH => ?_) | (refine g_box ?_; (first | refine p_boxA hH rfl (fun g w hg hH => ?_) | refine p_boxI hH rfl (fun g w hg hH => ?_) | refine p_boxL hH rfl (fun g w hg hH => ?_))) | (refine g_cond ?_; (first | refine c_condD rfl (fun hc hp => ?_) (fun hc hp => ?_) | refine c_cond rfl (fun hc => ?_) (fun hc => ?_))) | refine d_start (P := Tryz.prog) hH (fun hH => ?_) | (refine g_any ?_; (first | (apply d_done; exact rfl; kernel_rfl) | (apply d_next; exact rfl; exact rfl; exact rfl; kernel_rfl; (first | (simp only [falses, setB]; exact rfl) | exact rfl); exact hH.sub tSub; (intro w hH; (repeat (first | refine stpO ?_ | (refine g_load ?_; (first | (refine p_loadRF hH rfl rfl (by omega) tO ?_) | (refine p_loadSF hH rfl rfl tO ?_) | (refine p_loadS hH rfl tW ?_))) | (refine p_neF rfl rfl ?_) | (refine p_eqF rfl rfl ?_))); exact r_nil one_end)) | (apply d_split; exact rfl; exact rfl; exact rfl; exact rfl; exact rfl; intro hg; rotate_left; intro hg; rotate_right) | (apply d_all1; exact rfl; kernel_rfl; exact rfl; exact rfl) | (apply d_all2; exact rfl; kernel_rfl; exact rfl; exact rfl; exact rfl; exact rfl) | (apply d_all3; exact rfl; kernel_rfl; exact rfl; exact rfl; exact rfl; exact rfl; exact rfl; exact rfl))) | refine then_end (hH.sub tSub) ?_)
      all_goals (refine e_end (H1 := [.sl (.slice vb (fs.length + 1) vc) 37 2 (fs.length + 1) (fldV fs ++ [.string ⟨nm.toArray⟩, .string ⟨vl.toArray⟩])]) (resC3 (ty := 24) hH rfl rfl rfl rfl rfl) hH ⟨vb, vc, ?_, ?_⟩ tTk
                 rotate_left
                 · rw [List.length_append, List.length_singleton]; unfold fldV; rw [List.flatMap_append]; rfl
                 rw [List.length_append, List.length_singleton]
                 first
                 | (rw [if_pos (by omega)]; rfl)
                 | (rw [if_neg (by omega)]; rfl))
  · have hb : Hp.begunR { request := rq, method := z :: zs, target := ta, minor := mi, status := st, reason := re, fields := fs } = true := by simp [Hp.begunR]
    have kme : decide (z :: zs ≠ []) = true := rfl
    rw [if_neg (by rw [hb]; simp)]
    cases s with
    | nil =>
      rw [if_pos rfl]
      refine callsA_of (args := [_, _, _]) Tryz.func61 rfl Tryz.ntmps61 (by simp) ?_
      intro w0 hH
      repeat' (first | refine stp ?_ | (refine g_guard ?_; (first | refine r_guardD rfl rfl rfl (fun hg hp => ?_) (fun hg hp => ?_) | refine r_guard rfl rfl rfl (fun hg => ?_) (fun hg => ?_))) | (refine g_load ?_; (first | (refine p_loadRF hH rfl rfl (by omega) tO ?_) | (refine p_loadSF hH rfl rfl tO ?_) | (refine p_loadSB hH rfl rfl tO ?_) | (refine p_loadRB hH rfl rfl (by omega) tO ?_) | (refine p_loadS hH rfl tW ?_))) | (refine g_call ?_; (first | (refine p_appendL hH rfl rfl (Reads1.own (v := .nilIface) (Sel.mem tSel)) rfl rfl rfl tO rfl (fun vb vc w hH => ?_)))) | refine n_buildSlice1 hH tE rfl rfl rfl rfl tN (fun g w hg hH => ?_) | (refine r_toInt Tryz.underlying183 Tryz.underlying3 rfl (wrap_small (by omega)) ?_) | (refine p_toTextS hH rfl rfl tO rfl ?_) | (refine p_neF rfl rfl ?_) | (refine p_eqF rfl rfl ?_) | (refine g_store ?_; (first | refine n_store hH rfl tE rfl rfl tN (fun w hH => ?_) | refine n_storeA hH rfl rfl rfl rfl rfl tN (fun w hH => ?_))) | refine n_alloc hH tW (fun g w hg hH => ?_) | (refine g_box ?_; (first | refine p_boxA hH rfl (fun g w hg hH => ?_) | refine p_boxI hH rfl (fun g w hg hH => ?_) | refine p_boxL hH rfl (fun g w hg hH => ?_))) | (refine g_cond ?_; (first | refine c_condD rfl (fun hc hp => ?_) (fun hc hp => ?_) | refine c_cond rfl (fun hc => ?_) (fun hc => ?_))) | refine d_start (P := Tryz.prog) hH (fun hH => ?_) | (refine g_any ?_; (first | (apply d_done; exact rfl; kernel_rfl) | (apply d_next; exact rfl; exact rfl; exact rfl; kernel_rfl; (first | (simp only [falses, setB]; exact rfl) | exact rfl); exact hH.sub tSub; (intro w hH; (repeat (first | refine stpO ?_ | (refine g_load ?_; (first | (refine p_loadRF hH rfl rfl (by omega) tO ?_) | (refine p_loadSF hH rfl rfl tO ?_) | (refine p_loadS hH rfl tW ?_))) | (refine p_neF rfl rfl ?_) | (refine p_eqF rfl rfl ?_))); exact r_nil one_end)) | (apply d_split; exact rfl; exact rfl; exact rfl; exact rfl; exact rfl; intro hg; rotate_left; intro hg; rotate_right) | (apply d_all1; exact rfl; kernel_rfl; exact rfl; exact rfl) | (apply d_all2; exact rfl; kernel_rfl; exact rfl; exact rfl; exact rfl; exact rfl) | (apply d_all3; exact rfl; kernel_rfl; exact rfl; exact rfl; exact rfl; exact rfl; exact rfl; exact rfl))) | refine then_end (hH.sub tSub) ?_)
      all_goals refine e_end (H1 := [fldsO _ (.slice fa fs.length fc)]) (resC3 (ty := 24) hH rfl rfl rfl rfl rfl) hH ⟨fa, fc, ?_, rfl⟩ tTk
      all_goals rfl
    | cons x r =>
      rw [if_neg (by simp)]
      have k9 : decide (x :: r = []) = false := rfl
      have h79 := c79 x r hs
      generalize Hp.fieldR (x :: r) = fr at *
      obtain ⟨⟨nm, vl⟩, e⟩ := fr
      dsimp only at h79 ⊢
      refine callsA_of (args := [_, _, _]) Tryz.func61 rfl Tryz.ntmps61 (by simp) ?_
      intro w0 hH
      repeat' (first | refine stp ?_ | (refine g_guard ?_; (first | refine r_guardD rfl rfl rfl (fun hg hp => ?_) (fun hg hp => ?_) | refine r_guard rfl rfl rfl (fun hg => ?_) (fun hg => ?_))) | (refine g_load ?_; (first | (refine p_loadRF hH rfl rfl (by omega) tO ?_) | (refine p_loadSF hH rfl rfl tO ?_) | (refine p_loadSB hH rfl rfl tO ?_) | (refine p_loadRB hH rfl rfl (by omega) tO ?_) | (refine p_loadS hH rfl tW ?_))) | (refine g_call ?_; (first | (refine k_call (g := 79) Tryz.func79 rfl rfl hH (EvL.cons (EvK.any rfl) EvL.nil) (h79) tTk tRd (fun v H1 w hT hH => ?_); obtain ⟨rfl, rfl⟩ := hT; simp only [List.nil_append, List.cons_append] at hH) | (refine p_appendL hH rfl rfl (Reads1.own (v := .nilIface) (Sel.mem tSel)) rfl rfl rfl tO rfl (fun vb vc w hH => ?_)))) | refine n_buildSlice1 hH tE rfl rfl rfl rfl tN (fun g w hg hH => ?_) | (refine r_toInt Tryz.underlying183 Tryz.underlying3 rfl (wrap_small (by omega)) ?_) | (refine p_toTextS hH rfl rfl tO rfl ?_) | (refine p_neF rfl rfl ?_) | (refine p_eqF rfl rfl ?_) | (refine g_store ?_; (first | refine n_store hH rfl tE rfl rfl tN (fun w hH => ?_) | refine n_storeA hH rfl rfl rfl rfl rfl tN (fun w hH => ?_))) | refine n_alloc hH tW (fun g w hg hH => ?_) | (refine g_box ?_; (first | refine p_boxA hH rfl (fun g w hg hH => ?_) | refine p_boxI hH rfl (fun g w hg hH => ?_) | refine p_boxL hH rfl (fun g w hg hH => ?_))) | (refine g_cond ?_; (first | refine c_condD rfl (fun hc hp => ?_) (fun hc hp => ?_) | refine c_cond rfl (fun hc => ?_) (fun hc => ?_))) | refine d_start (P := Tryz.prog) hH (fun hH => ?_) | (refine g_any ?_; (first | (apply d_done; exact rfl; kernel_rfl) | (apply d_next; exact rfl; exact rfl; exact rfl; kernel_rfl; (first | (simp only [falses, setB]; exact rfl) | exact rfl); exact hH.sub tSub; (intro w hH; (repeat (first | refine stpO ?_ | (refine g_load ?_; (first | (refine p_loadRF hH rfl rfl (by omega) tO ?_) | (refine p_loadSF hH rfl rfl tO ?_) | (refine p_loadS hH rfl tW ?_))) | (refine p_neF rfl rfl ?_) | (refine p_eqF rfl rfl ?_))); exact r_nil one_end)) | (apply d_split; exact rfl; exact rfl; exact rfl; exact rfl; exact rfl; intro hg; rotate_left; intro hg; rotate_right) | (apply d_all1; exact rfl; kernel_rfl; exact rfl; exact rfl) | (apply d_all2; exact rfl; kernel_rfl; exact rfl; exact rfl; exact rfl; exact rfl) | (apply d_all3; exact rfl; kernel_rfl; exact rfl; exact rfl; exact rfl; exact rfl; exact rfl; exact rfl))) | refine then_end (hH.sub tSub) ?_)
      all_goals (refine e_end (H1 := [.sl (.slice vb (fs.length + 1) vc) 37 2 (fs.length + 1) (fldV fs ++ [.string ⟨nm.toArray⟩, .string ⟨vl.toArray⟩])]) (resC3 (ty := 24) hH rfl rfl rfl rfl rfl) hH ⟨vb, vc, ?_, ?_⟩ tTk
                 rotate_left
                 · rw [List.length_append, List.length_singleton]; unfold fldV; rw [List.flatMap_append]; rfl
                 rw [List.length_append, List.length_singleton]
                 first
                 | (rw [if_pos (by omega)]; rfl)
                 | (rw [if_neg (by omega)]; rfl))

end Go.Proofs.YtiofekhdicfmoaaGreatDoor
