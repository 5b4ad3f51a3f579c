import Derived.Test.YtiofekhdicfmoaaGreatDoorMI
import Derived.KernelRfl
set_option linter.all false
namespace Go.Proofs.YtiofekhdicfmoaaGreatDoor
open Go Go.Hr
attribute [local irreducible] Go.wpList Go.Code.wp Go.Calls Go.Hr.CallsA Go.wpAnyH Go.callFunc Go.callMethod Go.Instr.typeAssert Go.Sem.run
set_option maxHeartbeats 4000000
set_option linter.all false

set_option maxRecDepth 8000
theorem c19e : CallsA Tryz.prog 19 (List.toArray [headV {} NIL, headV {} NIL]) [⟨none, 2, 0, [], none⟩, ⟨none, 2, 0, [], none⟩] [] (fun v H' => v = .bool true ∧ H' = []) := by
  have := c19 {} {} none none 0 0 (by decide)
  exact this.post fun v H' h => ⟨by rw [h.1]; rfl, h.2⟩
theorem c5 (G : Glob) (A : Option Addr) (k c : Nat) : CallsA Tryz.prog 5 (List.toArray [.slice A k c]) (GL G) [] (fun v H' => v = .bool true ∧ H' = []) := by
  refine callsA_of (args := [_]) Tryz.func5 rfl Tryz.ntmps5 (by simp) ?_
  intro w0 hH
  repeat' (first | refine stp ?_ | (refine g_guard ?_; (first | refine r_guardD rfl rfl rfl (fun hg hp => ?_) (fun hg hp => ?_) | refine r_guard rfl rfl rfl (fun hg => ?_) (fun hg => ?_))) | (refine g_load ?_; (first | (refine p_loadRF hH rfl rfl (by omega) tO ?_) | (refine p_loadSF hH rfl rfl tO ?_) | (refine p_loadSB hH rfl rfl tO ?_) | (refine p_loadRB hH rfl rfl (by omega) tO ?_) | (refine p_loadS hH rfl tW ?_))) | (refine g_call ?_; (first | (refine k_call (g := 20) Tryz.func20 rfl rfl hH (EvL.cons (EvK.any rfl) (EvL.cons (EvK.any rfl) EvL.nil)) (c20n _) tTk ReadsAll.nil (fun v H1 w hT hH => ?_); obtain ⟨rfl, rfl⟩ := hT; simp only [List.nil_append, List.cons_append] at hH) | (refine k_call (g := 21) Tryz.func21 rfl rfl hH (EvL.cons (EvK.any rfl) EvL.nil) (c21n) tTk ReadsAll.nil (fun v H1 w hT hH => ?_); obtain ⟨rfl, rfl⟩ := hT; simp only [List.nil_append, List.cons_append] at hH) | (refine k_call (g := 19) Tryz.func19 rfl rfl hH (EvL.cons (EvK.any rfl) (EvL.cons (EvK.any rfl) EvL.nil)) (c19e) tTk (ReadsAll.cons .none_ (ReadsAll.cons .none_ .nil)) (fun v H1 w hT hH => ?_); obtain ⟨rfl, rfl⟩ := hT; simp only [List.nil_append, List.cons_append] at hH) | (refine k_call (g := 17) Tryz.func17 rfl rfl hH EvL.nil (c17 G) tTk tRd (fun v H1 w hT hH => ?_); obtain ⟨rfl, rfl⟩ := hT; simp only [List.nil_append, List.cons_append] at hH) | (refine p_appendL hH rfl rfl (Reads1.own (v := .nilIface) (Sel.mem tSel)) rfl rfl rfl tO rfl (fun vb vc w hH => ?_)))) | refine n_buildSlice1 hH tE rfl rfl rfl rfl tN (fun g w hg hH => ?_) | (refine r_toInt Tryz.underlying183 Tryz.underlying3 rfl (wrap_small (by omega)) ?_) | (refine p_toTextS hH rfl rfl tO rfl ?_) | (refine p_neF rfl rfl ?_) | (refine p_eqF rfl rfl ?_) | (refine g_store ?_; (first | refine n_store hH rfl tE rfl rfl tN (fun w hH => ?_) | refine n_storeA hH rfl rfl rfl rfl rfl tN (fun w hH => ?_))) | refine n_alloc hH tW (fun g w hg hH => ?_) | (refine g_box ?_; (first | refine p_boxA hH rfl (fun g w hg hH => ?_) | refine p_boxI hH rfl (fun g w hg hH => ?_) | refine p_boxL hH rfl (fun g w hg hH => ?_))) | (refine g_cond ?_; (first | refine c_condD rfl (fun hc hp => ?_) (fun hc hp => ?_) | refine c_cond rfl (fun hc => ?_) (fun hc => ?_))) | refine d_start (P := Tryz.prog) hH (fun hH => ?_) | (refine g_any ?_; (first | (apply d_done; exact rfl; kernel_rfl) | (apply d_next; exact rfl; exact rfl; exact rfl; kernel_rfl; (first | (simp only [falses, setB]; exact rfl) | exact rfl); exact hH.sub tSub; (intro w hH; (repeat (first | refine stpO ?_ | (refine g_load ?_; (first | (refine p_loadRF hH rfl rfl (by omega) tO ?_) | (refine p_loadSF hH rfl rfl tO ?_) | (refine p_loadS hH rfl tW ?_))) | (refine p_neF rfl rfl ?_) | (refine p_eqF rfl rfl ?_))); exact r_nil one_end)) | (apply d_split; exact rfl; exact rfl; exact rfl; exact rfl; exact rfl; intro hg; rotate_left; intro hg; rotate_right) | (apply d_all1; exact rfl; kernel_rfl; exact rfl; exact rfl) | (apply d_all2; exact rfl; kernel_rfl; exact rfl; exact rfl; exact rfl; exact rfl) | (apply d_all3; exact rfl; kernel_rfl; exact rfl; exact rfl; exact rfl; exact rfl; exact rfl; exact rfl))) | refine then_end (hH.sub tSub) ?_)
  all_goals refine e_end (res1 rfl tW) hH ⟨?_, rfl⟩ tTk
  all_goals rfl

end Go.Proofs.YtiofekhdicfmoaaGreatDoor
