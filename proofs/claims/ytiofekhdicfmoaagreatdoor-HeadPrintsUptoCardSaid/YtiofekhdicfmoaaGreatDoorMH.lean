import Derived.Test.YtiofekhdicfmoaaGreatDoorMG
import Derived.KernelRfl
set_option linter.all false
namespace Go.Proofs.YtiofekhdicfmoaaGreatDoor
open Go Go.Hr
attribute [local irreducible] Go.wpList Go.Code.wp Go.Calls Go.Hr.CallsA Go.wpAnyH Go.callFunc Go.callMethod Go.Instr.typeAssert Go.Sem.run
set_option maxHeartbeats 4000000
set_option linter.all false

set_option maxRecDepth 8000
theorem CallsA_mono {P : Program} {g : FuncId} {args : Array Value} {R : List Ro} {H : List Own} {T T' : Value → List Own → Prop} (c : CallsA P g args R H T) (h : ∀ v H', T v H' → T' v H') : CallsA P g args R H T' := by
  unfold CallsA at c ⊢
  exact fun w hw => (c w hw).mono fun e w' ⟨v, H', he, ht, hh⟩ => ⟨v, H', he, h v H' ht, hh⟩
theorem requestP_line (s : Hp.PS) (t : List UInt8) : (Hp.requestP s t).1.line = s.line := by
  unfold Hp.requestP
  split
  · rfl
  · split
    · split <;> rfl
    · rfl
theorem responseP_line (s : Hp.PS) (t : List UInt8) : (Hp.responseP s t).1.line = s.line := by
  unfold Hp.responseP
  split
  · rfl
  · split
    · rfl
    · split
      · rfl
      · split
        · rfl
        · split <;> rfl
theorem fieldP_line (s : Hp.PS) (t : List UInt8) : (Hp.fieldP s t).1.line = s.line := by
  unfold Hp.fieldP
  split
  · rfl
  · split <;> rfl
theorem c52_request (G : Glob) (p : Nat) (s : Hp.PS) (lg lc : Nat) (fv ev : Value) (c : UInt8) (hs : Fit s) (hl : s.line ≠ []) (hcap : s.line.length ≤ lc) (h10 : (c.toNat : Int) = 10) (hst0 : s.st = .request)
    (hA : decide (((s.line.getD (((s.line.length : Int) - 1).toNat * 1) 0).toNat : Int) = 13) = true) (hR : s.read + 1 ≤ s.most) :
    CallsA Tryz.prog 52 (List.toArray [.pointer (some ⟨p, 0, none⟩), .int .u8 (c.toNat : Int)]) (GL G) [.pt p 100 (parV p s (.slice (some ⟨lg, 0, none⟩) s.line.length lc) fv ev), lineO s (.slice (some ⟨lg, 0, none⟩) s.line.length lc), fldO s fv]
      (TkT p ev ((Hp.requestP { s with read := s.read + 1, line := [], lines := s.lines + 1 } (s.line.take (((s.line.length : Int) - 1).toNat))).1, if (Hp.requestP { s with read := s.read + 1, line := [], lines := s.lines + 1 } (s.line.take (((s.line.length : Int) - 1).toNat))).2 = 0 then none else some ⟨some (Hp.requestP { s with read := s.read + 1, line := [], lines := s.lines + 1 } (s.line.take (((s.line.length : Int) - 1).toNat))).1.lines, (Hp.requestP { s with read := s.read + 1, line := [], lines := s.lines + 1 } (s.line.take (((s.line.length : Int) - 1).toNat))).2⟩)) := by
  have hlen : 0 < s.line.length := List.length_pos_iff.2 hl
  obtain ⟨h1, h2, h3, h4, h5⟩ := hs
  have g0 : decide ((0 : Int) < (s.line.length : Int)) = true := by simp; omega
  have g1 : decide ((c.toNat : Int) = 10) = true := by simpa using h10
  have g2 : decide ((c.toNat : Int) ≠ 10) = false := by simpa using h10
  have hB : (!(decide ((c.toNat : Int) = 10) == decide (((s.line.getD (((s.line.length : Int) - 1).toNat * 1) 0).toNat : Int) = 13))) = false := by rw [g1, hA]; rfl
  have hC : (!decide (((s.line.getD (((s.line.length : Int) - 1).toNat * 1) 0).toNat : Int) = 13)) = false := by rw [hA]; rfl
  have hR1 : decide ((s.most : Int) < (s.read : Int) + 1) = false := by simp; omega
  have hst1 := c69 G p { s with read := s.read + 1, line := [], lines := s.lines + 1 } (.slice none 0 0) fv ev (s.line.take (((s.line.length : Int) - 1).toNat)) (by simp; omega) 
  have hX : ∃ X, (Hp.requestP { s with read := s.read + 1, line := [], lines := s.lines + 1 } (s.line.take (((s.line.length : Int) - 1).toNat))) = X := ⟨_, rfl⟩
  obtain ⟨X, hX⟩ := hX
  rw [hX] at hst1 ⊢
  obtain ⟨X1, X2⟩ := X
  simp only at hst1 ⊢
  have hline : X1.line = [] := by have := requestP_line { s with read := s.read + 1, line := [], lines := s.lines + 1 } (s.line.take (((s.line.length : Int) - 1).toNat)); rw [hX] at this; exact this
  have hsf : stF p s.st = stF p .request := by rw [hst0]
  by_cases hz : X2 = 0
  · subst hz
    have hst : CallsA Tryz.prog 69 _ (GL G) _ (fun v H' => v = .nilIface ∧ ∃ fv', H' = [.pt p 100 (parV p X1 (.slice none 0 0) fv' ev), fldO X1 fv']) := hst1
    clear hst1
    rw [if_pos rfl]
    simp only [parV, hst0]
    rw [hst0] at hst
    refine callsA_of (args := [_, _]) Tryz.func52 rfl Tryz.ntmps52 (by simp) ?_
    intro w0 hH
    repeat' (first | refine stp ?_ | (refine g_guard ?_; (first | refine r_guardD rfl rfl rfl (fun hg hp => ?_) (fun hg hp => ?_) | refine r_guard rfl rfl rfl (fun hg => ?_) (fun hg => ?_))) | (refine g_load ?_; (first | (refine p_loadSB hH rfl rfl tO ?_) | (refine p_loadRB hH rfl rfl (by omega) tO ?_) | (refine p_loadS hH rfl tW ?_))) | (refine g_call ?_; (first | (refine k_call (g := 70) Tryz.func70 rfl rfl hH (EvL.cons (EvK.any rfl) EvL.nil) (c70 _) tTk tRd (fun v H1 w hT hH => ?_); obtain ⟨rfl, rfl⟩ := hT; simp only [List.nil_append, List.cons_append] at hH) | (refine p_callV (g := 69) Tryz.func69 rfl rfl hH rfl rfl rfl (hst) tTk tRd (fun v H1 w hT hH => ?_); obtain ⟨rfl, fv2, rfl⟩ := hT; simp only [List.nil_append, List.cons_append] at hH) | (refine p_appendL hH rfl rfl (Reads1.own (v := .nilIface) (Sel.mem tSel)) rfl rfl rfl tO rfl (fun vb vc w hH => ?_)))) | refine n_buildSlice1 hH tE rfl rfl rfl rfl tN (fun g w hg hH => ?_) | (refine r_toInt Tryz.underlying183 Tryz.underlying3 rfl (wrap_small (by omega)) ?_) | (refine p_toTextS hH rfl rfl tO rfl ?_) | (refine g_store ?_; (first | refine n_store hH rfl tE rfl rfl tN (fun w hH => ?_) | refine n_storeA hH rfl rfl rfl rfl rfl tN (fun w hH => ?_))) | refine n_alloc hH tW (fun g w hg hH => ?_) | (refine g_box ?_; (first | refine p_boxA hH rfl (fun g w hg hH => ?_) | refine p_boxI hH rfl (fun g w hg hH => ?_) | refine p_boxL hH rfl (fun g w hg hH => ?_))) | (refine g_cond ?_; (first | refine c_condD rfl (fun hc hp => ?_) (fun hc hp => ?_) | refine c_cond rfl (fun hc => ?_) (fun hc => ?_))) | refine d_start (P := Tryz.prog) hH (fun hH => ?_) | (refine g_any ?_; (first | (apply d_done; exact rfl; kernel_rfl) | (apply d_next; exact rfl; exact rfl; exact rfl; kernel_rfl; (first | (simp only [falses, setB]; exact rfl) | exact rfl); exact hH.sub tSub; (intro w hH; (repeat (first | refine stpO ?_ | (refine g_load ?_; (first | (refine p_loadS hH rfl tW ?_))))); exact r_nil one_end)) | (apply d_split; exact rfl; exact rfl; exact rfl; exact rfl; exact rfl; intro hg; rotate_left; intro hg; rotate_right) | (apply d_all1; exact rfl; kernel_rfl; exact rfl; exact rfl) | (apply d_all2; exact rfl; kernel_rfl; exact rfl; exact rfl; exact rfl; exact rfl) | (apply d_all3; exact rfl; kernel_rfl; exact rfl; exact rfl; exact rfl; exact rfl; exact rfl; exact rfl))) | refine then_end (hH.sub tSub) ?_)
    have e : lineO X1 (.slice none 0 0) = .sl (.slice none 0 0) 5 1 0 [] := by simp [lineO, hline]
    all_goals refine e_end (H1 := [.pt p 100 (parV p X1 (.slice none 0 0) fv2 ev), .sl (.slice none 0 0) 5 1 0 [], fldO X1 fv2]) (res1 rfl rfl) (hH.nil_ 5 1) ⟨rfl, .slice none 0 0, fv2, by rw [e]⟩ tTk
  · have hr : refV X2 = .iface 129 (.agg (List.toArray [.int .i64 (X2 : Int)])) := refVs X2 hz
    have hst := CallsA_mono (T' := fun v H' => v = .iface 129 (.agg (List.toArray [.int .i64 (X2 : Int)])) ∧ ∃ fv', H' = [.pt p 100 (parV p X1 (.slice none 0 0) fv' ev), fldO X1 fv']) hst1 (fun v H' h => ⟨h.1.trans hr, h.2⟩)
    clear hst1
    rw [if_neg hz]
    simp only [parV, hst0]
    rw [hst0] at hst
    refine callsA_of (args := [_, _]) Tryz.func52 rfl Tryz.ntmps52 (by simp) ?_
    intro w0 hH
    repeat' (first | refine stp ?_ | (refine g_guard ?_; (first | refine r_guardD rfl rfl rfl (fun hg hp => ?_) (fun hg hp => ?_) | refine r_guard rfl rfl rfl (fun hg => ?_) (fun hg => ?_))) | (refine g_load ?_; (first | (refine p_loadSB hH rfl rfl tO ?_) | (refine p_loadRB hH rfl rfl (by omega) tO ?_) | (refine p_loadS hH rfl tW ?_))) | (refine g_call ?_; (first | (refine k_call (g := 70) Tryz.func70 rfl rfl hH (EvL.cons (EvK.any rfl) EvL.nil) (c70 _) tTk tRd (fun v H1 w hT hH => ?_); obtain ⟨rfl, rfl⟩ := hT; simp only [List.nil_append, List.cons_append] at hH) | (refine p_callV (g := 69) Tryz.func69 rfl rfl hH rfl rfl rfl (hst) tTk tRd (fun v H1 w hT hH => ?_); obtain ⟨rfl, fv2, rfl⟩ := hT; simp only [List.nil_append, List.cons_append] at hH) | (refine p_appendL hH rfl rfl (Reads1.own (v := .nilIface) (Sel.mem tSel)) rfl rfl rfl tO rfl (fun vb vc w hH => ?_)))) | refine n_buildSlice1 hH tE rfl rfl rfl rfl tN (fun g w hg hH => ?_) | (refine r_toInt Tryz.underlying183 Tryz.underlying3 rfl (wrap_small (by omega)) ?_) | (refine p_toTextS hH rfl rfl tO rfl ?_) | (refine g_store ?_; (first | refine n_store hH rfl tE rfl rfl tN (fun w hH => ?_) | refine n_storeA hH rfl rfl rfl rfl rfl tN (fun w hH => ?_))) | refine n_alloc hH tW (fun g w hg hH => ?_) | (refine g_box ?_; (first | refine p_boxA hH rfl (fun g w hg hH => ?_) | refine p_boxI hH rfl (fun g w hg hH => ?_) | refine p_boxL hH rfl (fun g w hg hH => ?_))) | (refine g_cond ?_; (first | refine c_condD rfl (fun hc hp => ?_) (fun hc hp => ?_) | refine c_cond rfl (fun hc => ?_) (fun hc => ?_))) | refine d_start (P := Tryz.prog) hH (fun hH => ?_) | (refine g_any ?_; (first | (apply d_done; exact rfl; kernel_rfl) | (apply d_next; exact rfl; exact rfl; exact rfl; kernel_rfl; (first | (simp only [falses, setB]; exact rfl) | exact rfl); exact hH.sub tSub; (intro w hH; (repeat (first | refine stpO ?_ | (refine g_load ?_; (first | (refine p_loadS hH rfl tW ?_))))); exact r_nil one_end)) | (apply d_split; exact rfl; exact rfl; exact rfl; exact rfl; exact rfl; intro hg; rotate_left; intro hg; rotate_right) | (apply d_all1; exact rfl; kernel_rfl; exact rfl; exact rfl) | (apply d_all2; exact rfl; kernel_rfl; exact rfl; exact rfl; exact rfl; exact rfl) | (apply d_all3; exact rfl; kernel_rfl; exact rfl; exact rfl; exact rfl; exact rfl; exact rfl; exact rfl))) | refine then_end (hH.sub tSub) ?_)
    have e : lineO X1 (.slice none 0 0) = .sl (.slice none 0 0) 5 1 0 [] := by simp [lineO, hline]
    all_goals refine e_end (H1 := [.pt p 100 (parV p X1 (.slice none 0 0) fv2 ev), .sl (.slice none 0 0) 5 1 0 [], fldO X1 fv2]) (res1 rfl rfl) (hH.nil_ 5 1) ⟨rfl, .slice none 0 0, fv2, by rw [e]⟩ tTk

theorem c52_response (G : Glob) (p : Nat) (s : Hp.PS) (lg lc : Nat) (fv ev : Value) (c : UInt8) (hs : Fit s) (hl : s.line ≠ []) (hcap : s.line.length ≤ lc) (h10 : (c.toNat : Int) = 10) (hst0 : s.st = .response)
    (hA : decide (((s.line.getD (((s.line.length : Int) - 1).toNat * 1) 0).toNat : Int) = 13) = true) (hR : s.read + 1 ≤ s.most) :
    CallsA Tryz.prog 52 (List.toArray [.pointer (some ⟨p, 0, none⟩), .int .u8 (c.toNat : Int)]) (GL G) [.pt p 100 (parV p s (.slice (some ⟨lg, 0, none⟩) s.line.length lc) fv ev), lineO s (.slice (some ⟨lg, 0, none⟩) s.line.length lc), fldO s fv]
      (TkT p ev ((Hp.responseP { s with read := s.read + 1, line := [], lines := s.lines + 1 } (s.line.take (((s.line.length : Int) - 1).toNat))).1, if (Hp.responseP { s with read := s.read + 1, line := [], lines := s.lines + 1 } (s.line.take (((s.line.length : Int) - 1).toNat))).2 = 0 then none else some ⟨some (Hp.responseP { s with read := s.read + 1, line := [], lines := s.lines + 1 } (s.line.take (((s.line.length : Int) - 1).toNat))).1.lines, (Hp.responseP { s with read := s.read + 1, line := [], lines := s.lines + 1 } (s.line.take (((s.line.length : Int) - 1).toNat))).2⟩)) := by
  have hlen : 0 < s.line.length := List.length_pos_iff.2 hl
  obtain ⟨h1, h2, h3, h4, h5⟩ := hs
  have g0 : decide ((0 : Int) < (s.line.length : Int)) = true := by simp; omega
  have g1 : decide ((c.toNat : Int) = 10) = true := by simpa using h10
  have g2 : decide ((c.toNat : Int) ≠ 10) = false := by simpa using h10
  have hB : (!(decide ((c.toNat : Int) = 10) == decide (((s.line.getD (((s.line.length : Int) - 1).toNat * 1) 0).toNat : Int) = 13))) = false := by rw [g1, hA]; rfl
  have hC : (!decide (((s.line.getD (((s.line.length : Int) - 1).toNat * 1) 0).toNat : Int) = 13)) = false := by rw [hA]; rfl
  have hR1 : decide ((s.most : Int) < (s.read : Int) + 1) = false := by simp; omega
  have hst1 := c68 G p { s with read := s.read + 1, line := [], lines := s.lines + 1 } (.slice none 0 0) fv ev (s.line.take (((s.line.length : Int) - 1).toNat)) (by simp; omega) 
  have hX : ∃ X, (Hp.responseP { s with read := s.read + 1, line := [], lines := s.lines + 1 } (s.line.take (((s.line.length : Int) - 1).toNat))) = X := ⟨_, rfl⟩
  obtain ⟨X, hX⟩ := hX
  rw [hX] at hst1 ⊢
  obtain ⟨X1, X2⟩ := X
  simp only at hst1 ⊢
  have hline : X1.line = [] := by have := responseP_line { s with read := s.read + 1, line := [], lines := s.lines + 1 } (s.line.take (((s.line.length : Int) - 1).toNat)); rw [hX] at this; exact this
  have hsf : stF p s.st = stF p .response := by rw [hst0]
  by_cases hz : X2 = 0
  · subst hz
    have hst : CallsA Tryz.prog 68 _ (GL G) _ (fun v H' => v = .nilIface ∧ ∃ fv', H' = [.pt p 100 (parV p X1 (.slice none 0 0) fv' ev), fldO X1 fv']) := hst1
    clear hst1
    rw [if_pos rfl]
    simp only [parV, hst0]
    rw [hst0] at hst
    refine callsA_of (args := [_, _]) Tryz.func52 rfl Tryz.ntmps52 (by simp) ?_
    intro w0 hH
    repeat' (first | refine stp ?_ | (refine g_guard ?_; (first | refine r_guardD rfl rfl rfl (fun hg hp => ?_) (fun hg hp => ?_) | refine r_guard rfl rfl rfl (fun hg => ?_) (fun hg => ?_))) | (refine g_load ?_; (first | (refine p_loadSB hH rfl rfl tO ?_) | (refine p_loadRB hH rfl rfl (by omega) tO ?_) | (refine p_loadS hH rfl tW ?_))) | (refine g_call ?_; (first | (refine k_call (g := 70) Tryz.func70 rfl rfl hH (EvL.cons (EvK.any rfl) EvL.nil) (c70 _) tTk tRd (fun v H1 w hT hH => ?_); obtain ⟨rfl, rfl⟩ := hT; simp only [List.nil_append, List.cons_append] at hH) | (refine p_callV (g := 68) Tryz.func68 rfl rfl hH rfl rfl rfl (hst) tTk tRd (fun v H1 w hT hH => ?_); obtain ⟨rfl, fv2, rfl⟩ := hT; simp only [List.nil_append, List.cons_append] at hH) | (refine p_appendL hH rfl rfl (Reads1.own (v := .nilIface) (Sel.mem tSel)) rfl rfl rfl tO rfl (fun vb vc w hH => ?_)))) | refine n_buildSlice1 hH tE rfl rfl rfl rfl tN (fun g w hg hH => ?_) | (refine r_toInt Tryz.underlying183 Tryz.underlying3 rfl (wrap_small (by omega)) ?_) | (refine p_toTextS hH rfl rfl tO rfl ?_) | (refine g_store ?_; (first | refine n_store hH rfl tE rfl rfl tN (fun w hH => ?_) | refine n_storeA hH rfl rfl rfl rfl rfl tN (fun w hH => ?_))) | refine n_alloc hH tW (fun g w hg hH => ?_) | (refine g_box ?_; (first | refine p_boxA hH rfl (fun g w hg hH => ?_) | refine p_boxI hH rfl (fun g w hg hH => ?_) | refine p_boxL hH rfl (fun g w hg hH => ?_))) | (refine g_cond ?_; (first | refine c_condD rfl (fun hc hp => ?_) (fun hc hp => ?_) | refine c_cond rfl (fun hc => ?_) (fun hc => ?_))) | refine d_start (P := Tryz.prog) hH (fun hH => ?_) | (refine g_any ?_; (first | (apply d_done; exact rfl; kernel_rfl) | (apply d_next; exact rfl; exact rfl; exact rfl; kernel_rfl; (first | (simp only [falses, setB]; exact rfl) | exact rfl); exact hH.sub tSub; (intro w hH; (repeat (first | refine stpO ?_ | (refine g_load ?_; (first | (refine p_loadS hH rfl tW ?_))))); exact r_nil one_end)) | (apply d_split; exact rfl; exact rfl; exact rfl; exact rfl; exact rfl; intro hg; rotate_left; intro hg; rotate_right) | (apply d_all1; exact rfl; kernel_rfl; exact rfl; exact rfl) | (apply d_all2; exact rfl; kernel_rfl; exact rfl; exact rfl; exact rfl; exact rfl) | (apply d_all3; exact rfl; kernel_rfl; exact rfl; exact rfl; exact rfl; exact rfl; exact rfl; exact rfl))) | refine then_end (hH.sub tSub) ?_)
    have e : lineO X1 (.slice none 0 0) = .sl (.slice none 0 0) 5 1 0 [] := by simp [lineO, hline]
    all_goals refine e_end (H1 := [.pt p 100 (parV p X1 (.slice none 0 0) fv2 ev), .sl (.slice none 0 0) 5 1 0 [], fldO X1 fv2]) (res1 rfl rfl) (hH.nil_ 5 1) ⟨rfl, .slice none 0 0, fv2, by rw [e]⟩ tTk
  · have hr : refV X2 = .iface 129 (.agg (List.toArray [.int .i64 (X2 : Int)])) := refVs X2 hz
    have hst := CallsA_mono (T' := fun v H' => v = .iface 129 (.agg (List.toArray [.int .i64 (X2 : Int)])) ∧ ∃ fv', H' = [.pt p 100 (parV p X1 (.slice none 0 0) fv' ev), fldO X1 fv']) hst1 (fun v H' h => ⟨h.1.trans hr, h.2⟩)
    clear hst1
    rw [if_neg hz]
    simp only [parV, hst0]
    rw [hst0] at hst
    refine callsA_of (args := [_, _]) Tryz.func52 rfl Tryz.ntmps52 (by simp) ?_
    intro w0 hH
    repeat' (first | refine stp ?_ | (refine g_guard ?_; (first | refine r_guardD rfl rfl rfl (fun hg hp => ?_) (fun hg hp => ?_) | refine r_guard rfl rfl rfl (fun hg => ?_) (fun hg => ?_))) | (refine g_load ?_; (first | (refine p_loadSB hH rfl rfl tO ?_) | (refine p_loadRB hH rfl rfl (by omega) tO ?_) | (refine p_loadS hH rfl tW ?_))) | (refine g_call ?_; (first | (refine k_call (g := 70) Tryz.func70 rfl rfl hH (EvL.cons (EvK.any rfl) EvL.nil) (c70 _) tTk tRd (fun v H1 w hT hH => ?_); obtain ⟨rfl, rfl⟩ := hT; simp only [List.nil_append, List.cons_append] at hH) | (refine p_callV (g := 68) Tryz.func68 rfl rfl hH rfl rfl rfl (hst) tTk tRd (fun v H1 w hT hH => ?_); obtain ⟨rfl, fv2, rfl⟩ := hT; simp only [List.nil_append, List.cons_append] at hH) | (refine p_appendL hH rfl rfl (Reads1.own (v := .nilIface) (Sel.mem tSel)) rfl rfl rfl tO rfl (fun vb vc w hH => ?_)))) | refine n_buildSlice1 hH tE rfl rfl rfl rfl tN (fun g w hg hH => ?_) | (refine r_toInt Tryz.underlying183 Tryz.underlying3 rfl (wrap_small (by omega)) ?_) | (refine p_toTextS hH rfl rfl tO rfl ?_) | (refine g_store ?_; (first | refine n_store hH rfl tE rfl rfl tN (fun w hH => ?_) | refine n_storeA hH rfl rfl rfl rfl rfl tN (fun w hH => ?_))) | refine n_alloc hH tW (fun g w hg hH => ?_) | (refine g_box ?_; (first | refine p_boxA hH rfl (fun g w hg hH => ?_) | refine p_boxI hH rfl (fun g w hg hH => ?_) | refine p_boxL hH rfl (fun g w hg hH => ?_))) | (refine g_cond ?_; (first | refine c_condD rfl (fun hc hp => ?_) (fun hc hp => ?_) | refine c_cond rfl (fun hc => ?_) (fun hc => ?_))) | refine d_start (P := Tryz.prog) hH (fun hH => ?_) | (refine g_any ?_; (first | (apply d_done; exact rfl; kernel_rfl) | (apply d_next; exact rfl; exact rfl; exact rfl; kernel_rfl; (first | (simp only [falses, setB]; exact rfl) | exact rfl); exact hH.sub tSub; (intro w hH; (repeat (first | refine stpO ?_ | (refine g_load ?_; (first | (refine p_loadS hH rfl tW ?_))))); exact r_nil one_end)) | (apply d_split; exact rfl; exact rfl; exact rfl; exact rfl; exact rfl; intro hg; rotate_left; intro hg; rotate_right) | (apply d_all1; exact rfl; kernel_rfl; exact rfl; exact rfl) | (apply d_all2; exact rfl; kernel_rfl; exact rfl; exact rfl; exact rfl; exact rfl) | (apply d_all3; exact rfl; kernel_rfl; exact rfl; exact rfl; exact rfl; exact rfl; exact rfl; exact rfl))) | refine then_end (hH.sub tSub) ?_)
    have e : lineO X1 (.slice none 0 0) = .sl (.slice none 0 0) 5 1 0 [] := by simp [lineO, hline]
    all_goals refine e_end (H1 := [.pt p 100 (parV p X1 (.slice none 0 0) fv2 ev), .sl (.slice none 0 0) 5 1 0 [], fldO X1 fv2]) (res1 rfl rfl) (hH.nil_ 5 1) ⟨rfl, .slice none 0 0, fv2, by rw [e]⟩ tTk

theorem c52_field (G : Glob) (p : Nat) (s : Hp.PS) (lg lc : Nat) (fv ev : Value) (c : UInt8) (hs : Fit s) (hl : s.line ≠ []) (hcap : s.line.length ≤ lc) (h10 : (c.toNat : Int) = 10) (hst0 : s.st = .field)
    (hA : decide (((s.line.getD (((s.line.length : Int) - 1).toNat * 1) 0).toNat : Int) = 13) = true) (hR : s.read + 1 ≤ s.most) :
    CallsA Tryz.prog 52 (List.toArray [.pointer (some ⟨p, 0, none⟩), .int .u8 (c.toNat : Int)]) (GL G) [.pt p 100 (parV p s (.slice (some ⟨lg, 0, none⟩) s.line.length lc) fv ev), lineO s (.slice (some ⟨lg, 0, none⟩) s.line.length lc), fldO s fv]
      (TkT p ev ((Hp.fieldP { s with read := s.read + 1, line := [], lines := s.lines + 1 } (s.line.take (((s.line.length : Int) - 1).toNat))).1, if (Hp.fieldP { s with read := s.read + 1, line := [], lines := s.lines + 1 } (s.line.take (((s.line.length : Int) - 1).toNat))).2 = 0 then none else some ⟨some (Hp.fieldP { s with read := s.read + 1, line := [], lines := s.lines + 1 } (s.line.take (((s.line.length : Int) - 1).toNat))).1.lines, (Hp.fieldP { s with read := s.read + 1, line := [], lines := s.lines + 1 } (s.line.take (((s.line.length : Int) - 1).toNat))).2⟩)) := by
  have hlen : 0 < s.line.length := List.length_pos_iff.2 hl
  obtain ⟨h1, h2, h3, h4, h5⟩ := hs
  have g0 : decide ((0 : Int) < (s.line.length : Int)) = true := by simp; omega
  have g1 : decide ((c.toNat : Int) = 10) = true := by simpa using h10
  have g2 : decide ((c.toNat : Int) ≠ 10) = false := by simpa using h10
  have hB : (!(decide ((c.toNat : Int) = 10) == decide (((s.line.getD (((s.line.length : Int) - 1).toNat * 1) 0).toNat : Int) = 13))) = false := by rw [g1, hA]; rfl
  have hC : (!decide (((s.line.getD (((s.line.length : Int) - 1).toNat * 1) 0).toNat : Int) = 13)) = false := by rw [hA]; rfl
  have hR1 : decide ((s.most : Int) < (s.read : Int) + 1) = false := by simp; omega
  have hst1 := c87 G p { s with read := s.read + 1, line := [], lines := s.lines + 1 } (.slice none 0 0) fv ev (s.line.take (((s.line.length : Int) - 1).toNat)) (by simp; omega) (by simpa using h5)
  have hX : ∃ X, (Hp.fieldP { s with read := s.read + 1, line := [], lines := s.lines + 1 } (s.line.take (((s.line.length : Int) - 1).toNat))) = X := ⟨_, rfl⟩
  obtain ⟨X, hX⟩ := hX
  rw [hX] at hst1 ⊢
  obtain ⟨X1, X2⟩ := X
  simp only at hst1 ⊢
  have hline : X1.line = [] := by have := fieldP_line { s with read := s.read + 1, line := [], lines := s.lines + 1 } (s.line.take (((s.line.length : Int) - 1).toNat)); rw [hX] at this; exact this
  have hsf : stF p s.st = stF p .field := by rw [hst0]
  by_cases hz : X2 = 0
  · subst hz
    have hst : CallsA Tryz.prog 87 _ (GL G) _ (fun v H' => v = .nilIface ∧ ∃ fv', H' = [.pt p 100 (parV p X1 (.slice none 0 0) fv' ev), fldO X1 fv']) := hst1
    clear hst1
    rw [if_pos rfl]
    simp only [parV, hst0]
    rw [hst0] at hst
    refine callsA_of (args := [_, _]) Tryz.func52 rfl Tryz.ntmps52 (by simp) ?_
    intro w0 hH
    repeat' (first | refine stp ?_ | (refine g_guard ?_; (first | refine r_guardD rfl rfl rfl (fun hg hp => ?_) (fun hg hp => ?_) | refine r_guard rfl rfl rfl (fun hg => ?_) (fun hg => ?_))) | (refine g_load ?_; (first | (refine p_loadSB hH rfl rfl tO ?_) | (refine p_loadRB hH rfl rfl (by omega) tO ?_) | (refine p_loadS hH rfl tW ?_))) | (refine g_call ?_; (first | (refine k_call (g := 70) Tryz.func70 rfl rfl hH (EvL.cons (EvK.any rfl) EvL.nil) (c70 _) tTk tRd (fun v H1 w hT hH => ?_); obtain ⟨rfl, rfl⟩ := hT; simp only [List.nil_append, List.cons_append] at hH) | (refine p_callV (g := 87) Tryz.func87 rfl rfl hH rfl rfl rfl (hst) tTk tRd (fun v H1 w hT hH => ?_); obtain ⟨rfl, fv2, rfl⟩ := hT; simp only [List.nil_append, List.cons_append] at hH) | (refine p_appendL hH rfl rfl (Reads1.own (v := .nilIface) (Sel.mem tSel)) rfl rfl rfl tO rfl (fun vb vc w hH => ?_)))) | refine n_buildSlice1 hH tE rfl rfl rfl rfl tN (fun g w hg hH => ?_) | (refine r_toInt Tryz.underlying183 Tryz.underlying3 rfl (wrap_small (by omega)) ?_) | (refine p_toTextS hH rfl rfl tO rfl ?_) | (refine g_store ?_; (first | refine n_store hH rfl tE rfl rfl tN (fun w hH => ?_) | refine n_storeA hH rfl rfl rfl rfl rfl tN (fun w hH => ?_))) | refine n_alloc hH tW (fun g w hg hH => ?_) | (refine g_box ?_; (first | refine p_boxA hH rfl (fun g w hg hH => ?_) | refine p_boxI hH rfl (fun g w hg hH => ?_) | refine p_boxL hH rfl (fun g w hg hH => ?_))) | (refine g_cond ?_; (first | refine c_condD rfl (fun hc hp => ?_) (fun hc hp => ?_) | refine c_cond rfl (fun hc => ?_) (fun hc => ?_))) | refine d_start (P := Tryz.prog) hH (fun hH => ?_) | (refine g_any ?_; (first | (apply d_done; exact rfl; kernel_rfl) | (apply d_next; exact rfl; exact rfl; exact rfl; kernel_rfl; (first | (simp only [falses, setB]; exact rfl) | exact rfl); exact hH.sub tSub; (intro w hH; (repeat (first | refine stpO ?_ | (refine g_load ?_; (first | (refine p_loadS hH rfl tW ?_))))); exact r_nil one_end)) | (apply d_split; exact rfl; exact rfl; exact rfl; exact rfl; exact rfl; intro hg; rotate_left; intro hg; rotate_right) | (apply d_all1; exact rfl; kernel_rfl; exact rfl; exact rfl) | (apply d_all2; exact rfl; kernel_rfl; exact rfl; exact rfl; exact rfl; exact rfl) | (apply d_all3; exact rfl; kernel_rfl; exact rfl; exact rfl; exact rfl; exact rfl; exact rfl; exact rfl))) | refine then_end (hH.sub tSub) ?_)
    have e : lineO X1 (.slice none 0 0) = .sl (.slice none 0 0) 5 1 0 [] := by simp [lineO, hline]
    all_goals refine e_end (H1 := [.pt p 100 (parV p X1 (.slice none 0 0) fv2 ev), .sl (.slice none 0 0) 5 1 0 [], fldO X1 fv2]) (res1 rfl rfl) (hH.nil_ 5 1) ⟨rfl, .slice none 0 0, fv2, by rw [e]⟩ tTk
  · have hr : refV X2 = .iface 129 (.agg (List.toArray [.int .i64 (X2 : Int)])) := refVs X2 hz
    have hst := CallsA_mono (T' := fun v H' => v = .iface 129 (.agg (List.toArray [.int .i64 (X2 : Int)])) ∧ ∃ fv', H' = [.pt p 100 (parV p X1 (.slice none 0 0) fv' ev), fldO X1 fv']) hst1 (fun v H' h => ⟨h.1.trans hr, h.2⟩)
    clear hst1
    rw [if_neg hz]
    simp only [parV, hst0]
    rw [hst0] at hst
    refine callsA_of (args := [_, _]) Tryz.func52 rfl Tryz.ntmps52 (by simp) ?_
    intro w0 hH
    repeat' (first | refine stp ?_ | (refine g_guard ?_; (first | refine r_guardD rfl rfl rfl (fun hg hp => ?_) (fun hg hp => ?_) | refine r_guard rfl rfl rfl (fun hg => ?_) (fun hg => ?_))) | (refine g_load ?_; (first | (refine p_loadSB hH rfl rfl tO ?_) | (refine p_loadRB hH rfl rfl (by omega) tO ?_) | (refine p_loadS hH rfl tW ?_))) | (refine g_call ?_; (first | (refine k_call (g := 70) Tryz.func70 rfl rfl hH (EvL.cons (EvK.any rfl) EvL.nil) (c70 _) tTk tRd (fun v H1 w hT hH => ?_); obtain ⟨rfl, rfl⟩ := hT; simp only [List.nil_append, List.cons_append] at hH) | (refine p_callV (g := 87) Tryz.func87 rfl rfl hH rfl rfl rfl (hst) tTk tRd (fun v H1 w hT hH => ?_); obtain ⟨rfl, fv2, rfl⟩ := hT; simp only [List.nil_append, List.cons_append] at hH) | (refine p_appendL hH rfl rfl (Reads1.own (v := .nilIface) (Sel.mem tSel)) rfl rfl rfl tO rfl (fun vb vc w hH => ?_)))) | refine n_buildSlice1 hH tE rfl rfl rfl rfl tN (fun g w hg hH => ?_) | (refine r_toInt Tryz.underlying183 Tryz.underlying3 rfl (wrap_small (by omega)) ?_) | (refine p_toTextS hH rfl rfl tO rfl ?_) | (refine g_store ?_; (first | refine n_store hH rfl tE rfl rfl tN (fun w hH => ?_) | refine n_storeA hH rfl rfl rfl rfl rfl tN (fun w hH => ?_))) | refine n_alloc hH tW (fun g w hg hH => ?_) | (refine g_box ?_; (first | refine p_boxA hH rfl (fun g w hg hH => ?_) | refine p_boxI hH rfl (fun g w hg hH => ?_) | refine p_boxL hH rfl (fun g w hg hH => ?_))) | (refine g_cond ?_; (first | refine c_condD rfl (fun hc hp => ?_) (fun hc hp => ?_) | refine c_cond rfl (fun hc => ?_) (fun hc => ?_))) | refine d_start (P := Tryz.prog) hH (fun hH => ?_) | (refine g_any ?_; (first | (apply d_done; exact rfl; kernel_rfl) | (apply d_next; exact rfl; exact rfl; exact rfl; kernel_rfl; (first | (simp only [falses, setB]; exact rfl) | exact rfl); exact hH.sub tSub; (intro w hH; (repeat (first | refine stpO ?_ | (refine g_load ?_; (first | (refine p_loadS hH rfl tW ?_))))); exact r_nil one_end)) | (apply d_split; exact rfl; exact rfl; exact rfl; exact rfl; exact rfl; intro hg; rotate_left; intro hg; rotate_right) | (apply d_all1; exact rfl; kernel_rfl; exact rfl; exact rfl) | (apply d_all2; exact rfl; kernel_rfl; exact rfl; exact rfl; exact rfl; exact rfl) | (apply d_all3; exact rfl; kernel_rfl; exact rfl; exact rfl; exact rfl; exact rfl; exact rfl; exact rfl))) | refine then_end (hH.sub tSub) ?_)
    have e : lineO X1 (.slice none 0 0) = .sl (.slice none 0 0) 5 1 0 [] := by simp [lineO, hline]
    all_goals refine e_end (H1 := [.pt p 100 (parV p X1 (.slice none 0 0) fv2 ev), .sl (.slice none 0 0) 5 1 0 [], fldO X1 fv2]) (res1 rfl rfl) (hH.nil_ 5 1) ⟨rfl, .slice none 0 0, fv2, by rw [e]⟩ tTk


end Go.Proofs.YtiofekhdicfmoaaGreatDoor

namespace Go.Proofs.YtiofekhdicfmoaaGreatDoor
open Go Go.Hr
attribute [local irreducible] Go.wpList Go.Code.wp Go.Calls Go.Hr.CallsA Go.wpAnyH Go.callFunc Go.callMethod Go.Instr.typeAssert Go.Sem.run
set_option maxHeartbeats 4000000
set_option linter.all false

set_option maxRecDepth 8000 in
theorem c52z (G : Glob) (p : Nat) (s : Hp.PS) (lg lc : Nat) (fv ev : Value) (c : UInt8) (hs : Fit s) (hl : s.line ≠ []) (h10 : (c.toNat : Int) = 10) (hz : Hp.afterP s.line = false ∨ ¬ s.read + 1 ≤ s.most) :
    CallsA Tryz.prog 52 (List.toArray [.pointer (some ⟨p, 0, none⟩), .int .u8 (c.toNat : Int)]) (GL G) [.pt p 100 (parV p s (.slice (some ⟨lg, 0, none⟩) s.line.length lc) fv ev), lineO s (.slice (some ⟨lg, 0, none⟩) s.line.length lc), fldO s fv] (TkT p ev (Hp.takeP s c)) := by
  have haf := after_eq s.line hl
  have hlen : 0 < s.line.length := List.length_pos_iff.2 hl
  obtain ⟨h1, h2, h3, h4, h5⟩ := hs
  have g0 : decide ((0 : Int) < (s.line.length : Int)) = true := by simp; omega
  have g1 : decide ((c.toNat : Int) = 10) = true := by simpa using h10
  have g2 : decide ((c.toNat : Int) ≠ 10) = false := by simpa using h10
  have gc : (c == 10) = true := by rw [c10_eq, g1]
  by_cases hA : decide (((s.line.getD (((s.line.length : Int) - 1).toNat * 1) 0).toNat : Int) = 13) = true
  · have hB : (!(decide ((c.toNat : Int) = 10) == decide (((s.line.getD (((s.line.length : Int) - 1).toNat * 1) 0).toNat : Int) = 13))) = false := by rw [g1, hA]; rfl
    have hR : ¬ s.read + 1 ≤ s.most := by
      rcases hz with h | h
      · rw [haf, hA] at h; cases h
      · exact h
    have hR1 : decide ((s.most : Int) < (s.read : Int) + 1) = true := by simp; omega
    rw [take_eq gc (by rw [haf, hA]), if_pos (by omega)]
    clear haf
    refine callsA_of (args := [_, _]) Tryz.func52 rfl Tryz.ntmps52 (by simp) ?_
    intro w0 hH
    repeat' (first | refine stp ?_ | (refine g_guard ?_; (first | refine r_guardD rfl rfl rfl (fun hg hp => ?_) (fun hg hp => ?_) | refine r_guard rfl rfl rfl (fun hg => ?_) (fun hg => ?_))) | (refine g_load ?_; (first | (refine p_loadSB hH rfl rfl tO ?_) | (refine p_loadRB hH rfl rfl (by omega) tO ?_) | (refine p_loadS hH rfl tW ?_))) | (refine g_call ?_; (first | (refine k_call (g := 70) Tryz.func70 rfl rfl hH (EvL.cons (EvK.any rfl) EvL.nil) (c70 _) tTk tRd (fun v H1 w hT hH => ?_); obtain ⟨rfl, rfl⟩ := hT; simp only [List.nil_append, List.cons_append] at hH) | (refine p_appendL hH rfl rfl (Reads1.own (v := .nilIface) (Sel.mem tSel)) rfl rfl rfl tO rfl (fun vb vc w hH => ?_)))) | refine n_buildSlice1 hH tE rfl rfl rfl rfl tN (fun g w hg hH => ?_) | (refine r_toInt Tryz.underlying183 Tryz.underlying3 rfl (wrap_small (by omega)) ?_) | (refine p_toTextS hH rfl rfl tO rfl ?_) | (refine g_store ?_; (first | refine n_store hH rfl tE rfl rfl tN (fun w hH => ?_) | refine n_storeA hH rfl rfl rfl rfl rfl tN (fun w hH => ?_))) | refine n_alloc hH tW (fun g w hg hH => ?_) | (refine g_box ?_; (first | refine p_boxA hH rfl (fun g w hg hH => ?_) | refine p_boxI hH rfl (fun g w hg hH => ?_) | refine p_boxL hH rfl (fun g w hg hH => ?_))) | (refine g_cond ?_; (first | refine c_condD rfl (fun hc hp => ?_) (fun hc hp => ?_) | refine c_cond rfl (fun hc => ?_) (fun hc => ?_))) | refine d_start (P := Tryz.prog) hH (fun hH => ?_) | (refine g_any ?_; (first | (apply d_done; exact rfl; kernel_rfl) | (apply d_next; exact rfl; exact rfl; exact rfl; kernel_rfl; (first | (simp only [falses, setB]; exact rfl) | exact rfl); exact hH.sub tSub; (intro w hH; (repeat (first | refine stpO ?_ | (refine g_load ?_; (first | (refine p_loadS hH rfl tW ?_))))); exact r_nil one_end)) | (apply d_split; exact rfl; exact rfl; exact rfl; exact rfl; exact rfl; intro hg; rotate_left; intro hg; rotate_right) | (apply d_all1; exact rfl; kernel_rfl; exact rfl; exact rfl) | (apply d_all2; exact rfl; kernel_rfl; exact rfl; exact rfl; exact rfl; exact rfl) | (apply d_all3; exact rfl; kernel_rfl; exact rfl; exact rfl; exact rfl; exact rfl; exact rfl; exact rfl))) | refine then_end (hH.sub tSub) ?_)
    all_goals refine e_end (H1 := [.pt p 100 (parV p { s with read := s.read + 1 } (.slice (some ⟨lg, 0, none⟩) s.line.length lc) fv ev), lineO s (.slice (some ⟨lg, 0, none⟩) s.line.length lc), fldO s fv]) (res1 rfl rfl) hH ⟨rfl, _, _, rfl⟩ tTk
  · have hA := eq_false_of_ne_true hA
    have hB : (!(decide ((c.toNat : Int) = 10) == decide (((s.line.getD (((s.line.length : Int) - 1).toNat * 1) 0).toNat : Int) = 13))) = true := by rw [g1, hA]; rfl
    rw [take_81 (by rw [gc, haf, hA]; rfl)]
    refine callsA_of (args := [_, _]) Tryz.func52 rfl Tryz.ntmps52 (by simp) ?_
    intro w0 hH
    repeat' (first | refine stp ?_ | (refine g_guard ?_; (first | refine r_guardD rfl rfl rfl (fun hg hp => ?_) (fun hg hp => ?_) | refine r_guard rfl rfl rfl (fun hg => ?_) (fun hg => ?_))) | (refine g_load ?_; (first | (refine p_loadSB hH rfl rfl tO ?_) | (refine p_loadRB hH rfl rfl (by omega) tO ?_) | (refine p_loadS hH rfl tW ?_))) | (refine g_call ?_; (first | (refine k_call (g := 70) Tryz.func70 rfl rfl hH (EvL.cons (EvK.any rfl) EvL.nil) (c70 _) tTk tRd (fun v H1 w hT hH => ?_); obtain ⟨rfl, rfl⟩ := hT; simp only [List.nil_append, List.cons_append] at hH) | (refine p_appendL hH rfl rfl (Reads1.own (v := .nilIface) (Sel.mem tSel)) rfl rfl rfl tO rfl (fun vb vc w hH => ?_)))) | refine n_buildSlice1 hH tE rfl rfl rfl rfl tN (fun g w hg hH => ?_) | (refine r_toInt Tryz.underlying183 Tryz.underlying3 rfl (wrap_small (by omega)) ?_) | (refine p_toTextS hH rfl rfl tO rfl ?_) | (refine g_store ?_; (first | refine n_store hH rfl tE rfl rfl tN (fun w hH => ?_) | refine n_storeA hH rfl rfl rfl rfl rfl tN (fun w hH => ?_))) | refine n_alloc hH tW (fun g w hg hH => ?_) | (refine g_box ?_; (first | refine p_boxA hH rfl (fun g w hg hH => ?_) | refine p_boxI hH rfl (fun g w hg hH => ?_) | refine p_boxL hH rfl (fun g w hg hH => ?_))) | (refine g_cond ?_; (first | refine c_condD rfl (fun hc hp => ?_) (fun hc hp => ?_) | refine c_cond rfl (fun hc => ?_) (fun hc => ?_))) | refine d_start (P := Tryz.prog) hH (fun hH => ?_) | (refine g_any ?_; (first | (apply d_done; exact rfl; kernel_rfl) | (apply d_next; exact rfl; exact rfl; exact rfl; kernel_rfl; (first | (simp only [falses, setB]; exact rfl) | exact rfl); exact hH.sub tSub; (intro w hH; (repeat (first | refine stpO ?_ | (refine g_load ?_; (first | (refine p_loadS hH rfl tW ?_))))); exact r_nil one_end)) | (apply d_split; exact rfl; exact rfl; exact rfl; exact rfl; exact rfl; intro hg; rotate_left; intro hg; rotate_right) | (apply d_all1; exact rfl; kernel_rfl; exact rfl; exact rfl) | (apply d_all2; exact rfl; kernel_rfl; exact rfl; exact rfl; exact rfl; exact rfl) | (apply d_all3; exact rfl; kernel_rfl; exact rfl; exact rfl; exact rfl; exact rfl; exact rfl; exact rfl))) | refine then_end (hH.sub tSub) ?_)
    all_goals refine e_end (H1 := [.pt p 100 (parV p s (.slice (some ⟨lg, 0, none⟩) s.line.length lc) fv ev), lineO s (.slice (some ⟨lg, 0, none⟩) s.line.length lc), fldO s fv]) (res1 rfl rfl) hH ⟨rfl, _, _, rfl⟩ tTk
theorem st_request (q : Hp.PS) (t : List UInt8) (h : q.st = .request) : Hp.stateP q t = Hp.requestP q t := by unfold Hp.stateP; rw [h]
theorem st_response (q : Hp.PS) (t : List UInt8) (h : q.st = .response) : Hp.stateP q t = Hp.responseP q t := by unfold Hp.stateP; rw [h]
theorem st_field (q : Hp.PS) (t : List UInt8) (h : q.st = .field) : Hp.stateP q t = Hp.fieldP q t := by unfold Hp.stateP; rw [h]
theorem take_form (l : List UInt8) : l.take (((l.length : Int) - 1).toNat) = l.dropLast := by
  rw [List.dropLast_eq_take]; congr 1; omega
theorem c52 (G : Glob) (p : Nat) (s : Hp.PS) (lv fv ev : Value) (c : UInt8) (hs : Fit s) :
    CallsA Tryz.prog 52 (List.toArray [.pointer (some ⟨p, 0, none⟩), .int .u8 (c.toNat : Int)]) (GL G) [.pt p 100 (parV p s lv fv ev), lineO s lv, fldO s fv] (TkT p ev (Hp.takeP s c)) := by
  have key : ∀ w, Holds w (bl [.pt p 100 (parV p s lv fv ev), lineO s lv, fldO s fv]) w (GL G) [.pt p 100 (parV p s lv fv ev), lineO s lv, fldO s fv] →
      CallsA Tryz.prog 52 (List.toArray [.pointer (some ⟨p, 0, none⟩), .int .u8 (c.toNat : Int)]) (GL G) [.pt p 100 (parV p s lv fv ev), lineO s lv, fldO s fv] (TkT p ev (Hp.takeP s c)) := by
    intro w hw
    by_cases hl : s.line = []
    · obtain ⟨la, lc, rfl, _, _⟩ := hw.form0 (v := lv) (Sel.there (Sel.here _ _))
      exact c52nil G p s la lc fv ev c hs hl
    · obtain ⟨lg, lc, rfl, hcap, _⟩ := hw.form (v := lv) (Sel.there (Sel.here _ _)) (List.length_pos_iff.2 hl)
      by_cases h10 : (c.toNat : Int) = 10
      · by_cases hz : Hp.afterP s.line = false ∨ ¬ s.read + 1 ≤ s.most
        · exact c52z G p s lg lc fv ev c hs hl h10 hz
        · have hA : Hp.afterP s.line = true := by
            cases h : Hp.afterP s.line with
            | false => exact absurd (.inl h) hz
            | true => rfl
          have hR : s.read + 1 ≤ s.most := Decidable.byContradiction fun h => hz (.inr h)
          rw [take_eq (by rw [c10_eq]; simpa using h10) hA, if_neg (by omega), ← take_form]
          have hA' := hA
          rw [after_eq s.line hl] at hA'
          have h3 : s.st = .request ∨ s.st = .response ∨ s.st = .field := by cases s.st <;> simp
          rcases h3 with hst | hst | hst
          · rw [st_request _ _ (show Hp.PS.st { s with read := s.read + 1, line := [], lines := s.lines + 1 } = .request from hst)]
            exact c52_request G p s lg lc fv ev c hs hl hcap h10 hst hA' hR
          · rw [st_response _ _ (show Hp.PS.st { s with read := s.read + 1, line := [], lines := s.lines + 1 } = .response from hst)]
            exact c52_response G p s lg lc fv ev c hs hl hcap h10 hst hA' hR
          · rw [st_field _ _ (show Hp.PS.st { s with read := s.read + 1, line := [], lines := s.lines + 1 } = .field from hst)]
            exact c52_field G p s lg lc fv ev c hs hl hcap h10 hst hA' hR
      · exact c52ne G p s lg lc fv ev c hs hl h10
  unfold CallsA at key ⊢
  exact fun w hw => key w hw w hw

end Go.Proofs.YtiofekhdicfmoaaGreatDoor

namespace Go.Proofs.YtiofekhdicfmoaaGreatDoor
open Go Go.Hr
attribute [local irreducible] Go.wpList Go.Code.wp Go.Calls Go.Hr.CallsA Go.wpAnyH Go.callFunc Go.callMethod Go.Instr.typeAssert Go.Sem.run
set_option maxHeartbeats 4000000
set_option linter.all false

abbrev NIL : Value := .slice none 0 0
/-- A parser that is owned. -/
def parO (p : Nat) (s : Hp.PS) (lv fv : Value) : List Own := [.pt p 100 (parV p s lv fv (errP s.err)), lineO s lv, fldO s fv]
theorem c50 (b : Bool) (m : Nat) (hm : 16 ≤ m ∧ m ≤ 65536) : CallsA Tryz.prog 50 (List.toArray [.bool b, .int .i64 (m : Int)]) [] []
    (fun v H' => ∃ p, v = .tuple (List.toArray [.pointer (some ⟨p, 0, none⟩), .int .i64 0]) ∧ H' = [.pt p 100 (parV p (Hp.newP b m) NIL NIL .nilIface), .sl NIL 5 1 0 [], .sl NIL 37 2 0 []]) := by
  have h1 : decide ((m : Int) < 16) = false := by simp; omega
  have h2 : decide ((65536 : Int) < (m : Int)) = false := by simp; omega
  cases b
  · refine callsA_of (args := [_, _]) Tryz.func50 rfl Tryz.ntmps50 (by simp) ?_
    intro w0 hH
    repeat' (first | refine stp ?_ | (refine g_guard ?_; (first | refine r_guardD rfl rfl rfl (fun hg hp => ?_) (fun hg hp => ?_) | refine r_guard rfl rfl rfl (fun hg => ?_) (fun hg => ?_))) | (refine g_load ?_; (first | (refine p_loadSB hH rfl rfl tO ?_) | (refine p_loadRB hH rfl rfl (by omega) tO ?_) | (refine p_loadS hH rfl tW ?_))) | (refine g_call ?_; (first | (refine p_appendL hH rfl rfl (Reads1.own (v := .nilIface) (Sel.mem tSel)) rfl rfl rfl tO rfl (fun vb vc w hH => ?_)))) | refine n_buildSlice1 hH tE rfl rfl rfl rfl tN (fun g w hg hH => ?_) | (refine r_toInt Tryz.underlying183 Tryz.underlying3 rfl (wrap_small (by omega)) ?_) | (refine p_toTextS hH rfl rfl tO rfl ?_) | (refine g_store ?_; (first | refine n_store hH rfl tE rfl rfl tN (fun w hH => ?_) | refine n_storeA hH rfl rfl rfl rfl rfl tN (fun w hH => ?_))) | refine n_alloc hH tW (fun g w hg hH => ?_) | (refine g_box ?_; (first | refine p_boxA hH rfl (fun g w hg hH => ?_) | refine p_boxI hH rfl (fun g w hg hH => ?_) | refine p_boxL hH rfl (fun g w hg hH => ?_))) | (refine g_cond ?_; (first | refine c_condD rfl (fun hc hp => ?_) (fun hc hp => ?_) | refine c_cond rfl (fun hc => ?_) (fun hc => ?_))) | refine d_start (P := Tryz.prog) hH (fun hH => ?_) | (refine g_any ?_; (first | (apply d_done; exact rfl; kernel_rfl) | (apply d_next; exact rfl; exact rfl; exact rfl; kernel_rfl; (first | (simp only [falses, setB]; exact rfl) | exact rfl); exact hH.sub tSub; (intro w hH; (repeat (first | refine stpO ?_ | (refine g_load ?_; (first | (refine p_loadS hH rfl tW ?_))))); exact r_nil one_end)) | (apply d_split; exact rfl; exact rfl; exact rfl; exact rfl; exact rfl; intro hg; rotate_left; intro hg; rotate_right) | (apply d_all1; exact rfl; kernel_rfl; exact rfl; exact rfl) | (apply d_all2; exact rfl; kernel_rfl; exact rfl; exact rfl; exact rfl; exact rfl) | (apply d_all3; exact rfl; kernel_rfl; exact rfl; exact rfl; exact rfl; exact rfl; exact rfl; exact rfl))) | refine then_end (hH.sub tSub) ?_)
    all_goals refine e_end (H1 := [.pt g 100 (parV g (Hp.newP false m) NIL NIL .nilIface), .sl NIL 5 1 0 [], .sl NIL 37 2 0 []]) (res2 rfl rfl rfl) ((hH.nil_ 5 1).nil_ 37 2) ⟨g, rfl, rfl⟩ tTk
  · refine callsA_of (args := [_, _]) Tryz.func50 rfl Tryz.ntmps50 (by simp) ?_
    intro w0 hH
    repeat' (first | refine stp ?_ | (refine g_guard ?_; (first | refine r_guardD rfl rfl rfl (fun hg hp => ?_) (fun hg hp => ?_) | refine r_guard rfl rfl rfl (fun hg => ?_) (fun hg => ?_))) | (refine g_load ?_; (first | (refine p_loadSB hH rfl rfl tO ?_) | (refine p_loadRB hH rfl rfl (by omega) tO ?_) | (refine p_loadS hH rfl tW ?_))) | (refine g_call ?_; (first | (refine p_appendL hH rfl rfl (Reads1.own (v := .nilIface) (Sel.mem tSel)) rfl rfl rfl tO rfl (fun vb vc w hH => ?_)))) | refine n_buildSlice1 hH tE rfl rfl rfl rfl tN (fun g w hg hH => ?_) | (refine r_toInt Tryz.underlying183 Tryz.underlying3 rfl (wrap_small (by omega)) ?_) | (refine p_toTextS hH rfl rfl tO rfl ?_) | (refine g_store ?_; (first | refine n_store hH rfl tE rfl rfl tN (fun w hH => ?_) | refine n_storeA hH rfl rfl rfl rfl rfl tN (fun w hH => ?_))) | refine n_alloc hH tW (fun g w hg hH => ?_) | (refine g_box ?_; (first | refine p_boxA hH rfl (fun g w hg hH => ?_) | refine p_boxI hH rfl (fun g w hg hH => ?_) | refine p_boxL hH rfl (fun g w hg hH => ?_))) | (refine g_cond ?_; (first | refine c_condD rfl (fun hc hp => ?_) (fun hc hp => ?_) | refine c_cond rfl (fun hc => ?_) (fun hc => ?_))) | refine d_start (P := Tryz.prog) hH (fun hH => ?_) | (refine g_any ?_; (first | (apply d_done; exact rfl; kernel_rfl) | (apply d_next; exact rfl; exact rfl; exact rfl; kernel_rfl; (first | (simp only [falses, setB]; exact rfl) | exact rfl); exact hH.sub tSub; (intro w hH; (repeat (first | refine stpO ?_ | (refine g_load ?_; (first | (refine p_loadS hH rfl tW ?_))))); exact r_nil one_end)) | (apply d_split; exact rfl; exact rfl; exact rfl; exact rfl; exact rfl; intro hg; rotate_left; intro hg; rotate_right) | (apply d_all1; exact rfl; kernel_rfl; exact rfl; exact rfl) | (apply d_all2; exact rfl; kernel_rfl; exact rfl; exact rfl; exact rfl; exact rfl) | (apply d_all3; exact rfl; kernel_rfl; exact rfl; exact rfl; exact rfl; exact rfl; exact rfl; exact rfl))) | refine then_end (hH.sub tSub) ?_)
    all_goals refine e_end (H1 := [.pt g 100 (parV g (Hp.newP true m) NIL NIL .nilIface), .sl NIL 5 1 0 [], .sl NIL 37 2 0 []]) (res2 rfl rfl rfl) ((hH.nil_ 5 1).nil_ 37 2) ⟨g, rfl, rfl⟩ tTk

end Go.Proofs.YtiofekhdicfmoaaGreatDoor

/- What a byte leaves fits. -/
namespace Go.Proofs.YtiofekhdicfmoaaGreatDoor
open Go Go.Hr
structure Kept (q r : Hp.PS) : Prop where
  most : r.most = q.most
  read : r.read = q.read
  lines : r.lines = q.lines
  line : r.line = q.line
  fields : q.head.fields.length ≤ 100 → r.head.fields.length ≤ 100
theorem Kept.refl (q : Hp.PS) : Kept q q := ⟨rfl, rfl, rfl, rfl, id⟩
theorem fieldLine_not100 {t : List UInt8} {f : Hp.FieldP} {n : Nat} (h : Hp.fieldLine n t = .ok f) : n ≠ 100 := by
  rintro rfl
  unfold Hp.fieldLine at h
  split at h
  · cases h
  · split at h
    · cases h
    · split at h
      · cases h
      · split at h
        · cases h
        · split at h
          · cases h
          · split at h
            · cases h
            · simp at h
theorem state_kept (q : Hp.PS) (t : List UInt8) : Kept q (Hp.stateP q t).1 := by
  have h3 : q.st = .request ∨ q.st = .response ∨ q.st = .field := by cases q.st <;> simp
  rcases h3 with h | h | h
  · rw [st_request q t h]
    unfold Hp.requestP
    split
    · exact .refl q
    · split
      · split
        · exact ⟨rfl, rfl, rfl, rfl, id⟩
        · exact .refl q
      · exact .refl q
  · rw [st_response q t h]
    unfold Hp.responseP
    split
    · exact .refl q
    · split
      · exact .refl q
      · split
        · exact .refl q
        · split
          · exact .refl q
          · split
            · exact .refl q
            · exact ⟨rfl, rfl, rfl, rfl, id⟩
  · rw [st_field q t h]
    unfold Hp.fieldP
    split
    · exact ⟨rfl, rfl, rfl, rfl, id⟩
    · split
      · exact .refl q
      · rename_i f hf
        have := fieldLine_not100 hf
        exact ⟨rfl, rfl, rfl, rfl, fun h => by simp; omega⟩
theorem fit_take (s : Hp.PS) (c : UInt8) (hs : Fit s) (he : (Hp.takeP s c).2 = none) : Fit (Hp.takeP s c).1 := by
  obtain ⟨h1, h2, h3, h4, h5⟩ := hs
  by_cases h81 : ((c == 10) != Hp.afterP s.line) = true
  · rw [take_81 h81] at he; cases he
  · cases hc : c == 10 with
    | false =>
      have ha : Hp.afterP s.line = false := by rw [hc] at h81; cases h : Hp.afterP s.line <;> simp_all
      rw [take_ne hc ha] at he ⊢
      split at he
      · cases he
      · rename_i hn
        rw [if_neg hn]
        exact ⟨h1, by simp; omega, by simp; omega, by simp; omega, h5⟩
    | true =>
      have ha : Hp.afterP s.line = true := by rw [hc] at h81; cases h : Hp.afterP s.line <;> simp_all
      rw [take_eq hc ha] at he ⊢
      split at he
      · cases he
      · rename_i hn
        rw [if_neg hn]
        obtain ⟨k1, k2, k3, k4, k5⟩ := state_kept { s with read := s.read + 1, line := [], lines := s.lines + 1 } s.line.dropLast
        simp only at k1 k2 k3 k4 k5
        exact ⟨by simp only; omega, by simp only; omega, by simp only; omega, by simp only; rw [k4]; simp, by simp only; exact k5 h5⟩
theorem take_whole_err (s : Hp.PS) (c : UInt8) : True := trivial
end Go.Proofs.YtiofekhdicfmoaaGreatDoor

namespace Go.Proofs.YtiofekhdicfmoaaGreatDoor
open Go Go.Hr
attribute [local irreducible] Go.wpList Go.Code.wp Go.Calls Go.Hr.CallsA Go.wpAnyH Go.callFunc Go.callMethod Go.Instr.typeAssert Go.Sem.run
set_option maxHeartbeats 4000000
set_option linter.all false

theorem holds_lessR {w0 w : World} {D : List Nat} {R : List Ro} {H : List Own} (h : Holds w0 D w R H) : Holds w0 D w [] H := ⟨h.os, h.tape, h.output, h.size, h.each, h.nodup, h.fresh, h.frame, fun r hr => nomatch hr⟩
theorem holds_moreR {w0 w : World} {R : List Ro} {H' : List Own} (h : Holds w0 [] w0 R []) (h2 : Holds w0 [] w [] H') : Holds w0 [] w R H' := by
  have := Holds.post (Hf := []) (Hr := []) (Hf' := H') (Re := []) h h2
  simpa using this
theorem feed_step (q : Hp.PS) (c : UInt8) (r : List UInt8) (h : q.stops = false) : Hp.feedP q (c :: r) = ((Hp.feedP (Hp.stepP q c) r).1 + 1, (Hp.feedP (Hp.stepP q c) r).2) := by
  simp [Hp.feedP, h]
theorem feed_stop (q : Hp.PS) (r : List UInt8) (h : q.stops = true) : Hp.feedP q r = (0, q) := by
  cases r <;> simp [Hp.feedP, h]
theorem drop_at (b : List UInt8) (i : Nat) (h : i < b.length) : b.drop i = b.getD i 0 :: b.drop (i + 1) := by
  rw [List.drop_eq_getElem_cons h]
  simp [List.getD, h]
set_option maxRecDepth 8000 in
theorem c20a (G : Glob) (p : Nat) (s : Hp.PS) (lv fv : Value) (ad : Addr) (bc : Nat) (b : List UInt8) (hb : b ≠ []) (hbl : b.length ≤ 1099511627776) (hs : s.err = none → Fit s) :
    CallsA Tryz.prog 20 (List.toArray [.pointer (some ⟨p, 0, none⟩), .slice (some ad) b.length bc]) (⟨some ad, 1, b.length, bytesV b, none⟩ :: GL G) [.pt p 100 (parV p s lv fv (errP s.err)), lineO s lv, fldO s fv]
      (fun v H' => v = .tuple (List.toArray [.int .i64 ((Hp.feedP s b).1 : Int), .bool (Hp.feedP s b).2.whole, .int .i64 (Hp.codeP (Hp.feedP s b).2 : Int)]) ∧ ∃ lv' fv', H' = [.pt p 100 (parV p (Hp.feedP s b).2 lv' fv' (errP (Hp.feedP s b).2.err)), lineO (Hp.feedP s b).2 lv', fldO (Hp.feedP s b).2 fv']) := by
  have hlen : 0 < b.length := List.length_pos_iff.2 hb
  refine callsA_of (args := [_, _]) Tryz.func20 rfl Tryz.ntmps20 (by simp) ?_
  intro w0 hH
  repeat' (first | refine stp ?_ | (refine g_guard ?_; (first | refine r_guardD rfl rfl rfl (fun hg hp => ?_) (fun hg hp => ?_) | refine r_guard rfl rfl rfl (fun hg => ?_) (fun hg => ?_))) | (refine g_load ?_; (first | (refine p_loadSB hH rfl rfl tO ?_) | (refine p_loadRB hH rfl rfl (by omega) tO ?_) | (refine p_loadS hH rfl tW ?_))) | (refine g_call ?_; (first | (refine p_appendL hH rfl rfl (Reads1.own (v := .nilIface) (Sel.mem tSel)) rfl rfl rfl tO rfl (fun vb vc w hH => ?_)))) | refine n_buildSlice1 hH tE rfl rfl rfl rfl tN (fun g w hg hH => ?_) | (refine r_toInt Tryz.underlying183 Tryz.underlying3 rfl (wrap_small (by omega)) ?_) | (refine p_toTextS hH rfl rfl tO rfl ?_) | (refine g_store ?_; (first | refine n_store hH rfl tE rfl rfl tN (fun w hH => ?_) | refine n_storeA hH rfl rfl rfl rfl rfl tN (fun w hH => ?_))) | refine n_alloc hH tW (fun g w hg hH => ?_) | (refine g_box ?_; (first | refine p_boxA hH rfl (fun g w hg hH => ?_) | refine p_boxI hH rfl (fun g w hg hH => ?_) | refine p_boxL hH rfl (fun g w hg hH => ?_))) | (refine g_cond ?_; (first | refine c_condD rfl (fun hc hp => ?_) (fun hc hp => ?_) | refine c_cond rfl (fun hc => ?_) (fun hc => ?_))) | refine d_start (P := Tryz.prog) hH (fun hH => ?_) | (refine g_any ?_; (first | (apply d_done; exact rfl; kernel_rfl) | (apply d_next; exact rfl; exact rfl; exact rfl; kernel_rfl; (first | (simp only [falses, setB]; exact rfl) | exact rfl); exact hH.sub tSub; (intro w hH; (repeat (first | refine stpO ?_ | (refine g_load ?_; (first | (refine p_loadS hH rfl tW ?_))))); exact r_nil one_end)) | (apply d_split; exact rfl; exact rfl; exact rfl; exact rfl; exact rfl; intro hg; rotate_left; intro hg; rotate_right) | (apply d_all1; exact rfl; kernel_rfl; exact rfl; exact rfl) | (apply d_all2; exact rfl; kernel_rfl; exact rfl; exact rfl; exact rfl; exact rfl) | (apply d_all3; exact rfl; kernel_rfl; exact rfl; exact rfl; exact rfl; exact rfl; exact rfl; exact rfl))) | refine then_end (hH.sub tSub) ?_)
  refine c_loopS (fun x : Nat × Hp.PS × Value × Value => [(0, .pointer (some ⟨p, 0, none⟩)), (1, .slice (some ad) b.length bc), (7, .int .i64 (x.1 : Int))])
    (fun x w => x.1 ≤ b.length ∧ Hp.feedP s b = ((Hp.feedP x.2.1 (b.drop x.1)).1 + x.1, (Hp.feedP x.2.1 (b.drop x.1)).2) ∧ (x.2.1.err = none → Fit x.2.1) ∧ Holds w0 (bl [.pt p 100 (parV p s lv fv (errP s.err)), lineO s lv, fldO s fv]) w (⟨some ad, 1, b.length, bytesV b, none⟩ :: GL G) [.pt p 100 (parV p x.2.1 x.2.2.1 x.2.2.2 (errP x.2.1.err)), lineO x.2.1 x.2.2.1, fldO x.2.1 x.2.2.2])
    (fun x => b.length - x.1) (0, s, lv, fv) tAg ⟨by simp, by simp, hs, hH⟩ (fun x f w hI => ?_)
  obtain ⟨i, q, lq, fq⟩ := x
  obtain ⟨hi, hfeed, hfit, hH⟩ := hI
  simp only at hi hfeed hfit hH ⊢
  by_cases hgo : i < b.length ∧ q.whole = false ∧ q.err = none
  · obtain ⟨hlt, hw, he⟩ := hgo
    have k1 : decide ((i : Int) < (b.length : Int)) = true := by simpa using hlt
    have k2 : (!q.whole) = true := by rw [hw]; rfl
    rw [he] at hH
    have e1 : ((i : Int)).toNat * 1 = i := by omega
    have h52 := c52 G p q lq fq (errP none) (b.getD (((i : Int)).toNat * 1) 0) (hfit he)
    have hft := fit_take q (b.getD (((i : Int)).toNat * 1) 0) (hfit he)
    have hfs := feed_step q (b.getD i 0) (b.drop (i + 1)) (by simp [Hp.PS.stops, hw, he])
    rw [← drop_at b i hlt] at hfs
    have hsp : Hp.stepP q (b.getD i 0) = { (Hp.takeP q (b.getD (((i : Int)).toNat * 1) 0)).1 with err := (Hp.takeP q (b.getD (((i : Int)).toNat * 1) 0)).2 } := by rw [e1]; rfl
    obtain ⟨X, hX⟩ : ∃ X, Hp.takeP q (b.getD (((i : Int)).toNat * 1) 0) = X := ⟨_, rfl⟩
    rw [hX] at h52 hft hsp
    obtain ⟨X1, X2⟩ := X
    simp only at h52 hft hsp
    rw [hsp] at hfs
    have hback : ∀ lq2 fq2 : Value, ∀ w, Holds w0 (bl [.pt p 100 (parV p s lv fv (errP s.err)), lineO s lv, fldO s fv]) w (⟨some ad, 1, b.length, bytesV b, none⟩ :: GL G) [.pt p 100 (parV p X1 lq2 fq2 (errP X2)), lineO X1 lq2, fldO X1 fq2] →
        (fun (x : Nat × Hp.PS × Value × Value) w => x.1 ≤ b.length ∧ Hp.feedP s b = ((Hp.feedP x.2.1 (b.drop x.1)).1 + x.1, (Hp.feedP x.2.1 (b.drop x.1)).2) ∧ (x.2.1.err = none → Fit x.2.1) ∧ Holds w0 (bl [.pt p 100 (parV p s lv fv (errP s.err)), lineO s lv, fldO s fv]) w (⟨some ad, 1, b.length, bytesV b, none⟩ :: GL G) [.pt p 100 (parV p x.2.1 x.2.2.1 x.2.2.2 (errP x.2.1.err)), lineO x.2.1 x.2.2.1, fldO x.2.1 x.2.2.2]) (i + 1, { X1 with err := X2 }, lq2, fq2) w := by
      intro lq2 fq2 w h
      refine ⟨by simp; omega, ?_, fun hn => ?_, h⟩
      · rw [hfeed, hfs]; simp only [Prod.mk.injEq, and_true]; omega
      · obtain ⟨a1, a2, a3, a4, a5⟩ := hft hn
        exact ⟨a1, a2, a3, a4, a5⟩
    rcases X2 with _ | ⟨_ | k, kc⟩
    · repeat' (first | refine stp ?_ | (refine g_guard ?_; (first | refine r_guardD rfl rfl rfl (fun hg hp => ?_) (fun hg hp => ?_) | refine r_guard rfl rfl rfl (fun hg => ?_) (fun hg => ?_))) | (refine g_load ?_; (first | (refine p_loadSB hH rfl rfl tO ?_) | (refine p_loadRB hH rfl rfl (by omega) tO ?_) | (refine p_loadS hH rfl tW ?_))) | (refine g_call ?_; (first | (refine k_call (g := 52) Tryz.func52 rfl rfl hH (EvL.cons (EvK.any rfl) (EvL.cons (EvK.any rfl) EvL.nil)) (h52) tTk (ReadsAll.skip ReadsAll.same) (fun v H1 w hT hH => ?_); obtain ⟨rfl, lq2, fq2, rfl⟩ := hT; simp only [List.nil_append, List.cons_append] at hH) | (refine p_appendL hH rfl rfl (Reads1.own (v := .nilIface) (Sel.mem tSel)) rfl rfl rfl tO rfl (fun vb vc w hH => ?_)))) | refine n_buildSlice1 hH tE rfl rfl rfl rfl tN (fun g w hg hH => ?_) | (refine r_toInt Tryz.underlying183 Tryz.underlying3 rfl (wrap_small (by omega)) ?_) | (refine p_toTextS hH rfl rfl tO rfl ?_) | (refine g_store ?_; (first | refine n_store hH rfl tE rfl rfl tN (fun w hH => ?_) | refine n_storeA hH rfl rfl rfl rfl rfl tN (fun w hH => ?_))) | refine n_alloc hH tW (fun g w hg hH => ?_) | (refine g_box ?_; (first | refine p_boxA hH rfl (fun g w hg hH => ?_) | refine p_boxI hH rfl (fun g w hg hH => ?_) | refine p_boxL hH rfl (fun g w hg hH => ?_))) | (refine g_cond ?_; (first | refine c_condD rfl (fun hc hp => ?_) (fun hc hp => ?_) | refine c_cond rfl (fun hc => ?_) (fun hc => ?_))) | refine d_start (P := Tryz.prog) hH (fun hH => ?_) | (refine g_any ?_; (first | (apply d_done; exact rfl; kernel_rfl) | (apply d_next; exact rfl; exact rfl; exact rfl; kernel_rfl; (first | (simp only [falses, setB]; exact rfl) | exact rfl); exact hH.sub tSub; (intro w hH; (repeat (first | refine stpO ?_ | (refine g_load ?_; (first | (refine p_loadS hH rfl tW ?_))))); exact r_nil one_end)) | (apply d_split; exact rfl; exact rfl; exact rfl; exact rfl; exact rfl; intro hg; rotate_left; intro hg; rotate_right) | (apply d_all1; exact rfl; kernel_rfl; exact rfl; exact rfl) | (apply d_all2; exact rfl; kernel_rfl; exact rfl; exact rfl; exact rfl; exact rfl) | (apply d_all3; exact rfl; kernel_rfl; exact rfl; exact rfl; exact rfl; exact rfl; exact rfl; exact rfl))) | refine then_end (hH.sub tSub) ?_)
      all_goals exact ⟨(i + 1, { X1 with err := none }, lq2, fq2), _, _, by simp; omega, rfl, tAg, hback lq2 fq2 _ (hH.sub tSub)⟩
    · repeat' (first | refine stp ?_ | (refine g_guard ?_; (first | refine r_guardD rfl rfl rfl (fun hg hp => ?_) (fun hg hp => ?_) | refine r_guard rfl rfl rfl (fun hg => ?_) (fun hg => ?_))) | (refine g_load ?_; (first | (refine p_loadSB hH rfl rfl tO ?_) | (refine p_loadRB hH rfl rfl (by omega) tO ?_) | (refine p_loadS hH rfl tW ?_))) | (refine g_call ?_; (first | (refine k_call (g := 52) Tryz.func52 rfl rfl hH (EvL.cons (EvK.any rfl) (EvL.cons (EvK.any rfl) EvL.nil)) (h52) tTk (ReadsAll.skip ReadsAll.same) (fun v H1 w hT hH => ?_); obtain ⟨rfl, lq2, fq2, rfl⟩ := hT; simp only [List.nil_append, List.cons_append] at hH) | (refine p_appendL hH rfl rfl (Reads1.own (v := .nilIface) (Sel.mem tSel)) rfl rfl rfl tO rfl (fun vb vc w hH => ?_)))) | refine n_buildSlice1 hH tE rfl rfl rfl rfl tN (fun g w hg hH => ?_) | (refine r_toInt Tryz.underlying183 Tryz.underlying3 rfl (wrap_small (by omega)) ?_) | (refine p_toTextS hH rfl rfl tO rfl ?_) | (refine g_store ?_; (first | refine n_store hH rfl tE rfl rfl tN (fun w hH => ?_) | refine n_storeA hH rfl rfl rfl rfl rfl tN (fun w hH => ?_))) | refine n_alloc hH tW (fun g w hg hH => ?_) | (refine g_box ?_; (first | refine p_boxA hH rfl (fun g w hg hH => ?_) | refine p_boxI hH rfl (fun g w hg hH => ?_) | refine p_boxL hH rfl (fun g w hg hH => ?_))) | (refine g_cond ?_; (first | refine c_condD rfl (fun hc hp => ?_) (fun hc hp => ?_) | refine c_cond rfl (fun hc => ?_) (fun hc => ?_))) | refine d_start (P := Tryz.prog) hH (fun hH => ?_) | (refine g_any ?_; (first | (apply d_done; exact rfl; kernel_rfl) | (apply d_next; exact rfl; exact rfl; exact rfl; kernel_rfl; (first | (simp only [falses, setB]; exact rfl) | exact rfl); exact hH.sub tSub; (intro w hH; (repeat (first | refine stpO ?_ | (refine g_load ?_; (first | (refine p_loadS hH rfl tW ?_))))); exact r_nil one_end)) | (apply d_split; exact rfl; exact rfl; exact rfl; exact rfl; exact rfl; intro hg; rotate_left; intro hg; rotate_right) | (apply d_all1; exact rfl; kernel_rfl; exact rfl; exact rfl) | (apply d_all2; exact rfl; kernel_rfl; exact rfl; exact rfl; exact rfl; exact rfl) | (apply d_all3; exact rfl; kernel_rfl; exact rfl; exact rfl; exact rfl; exact rfl; exact rfl; exact rfl))) | refine then_end (hH.sub tSub) ?_)
      all_goals exact ⟨(i + 1, { X1 with err := some ⟨none, kc⟩ }, lq2, fq2), _, _, by simp; omega, rfl, tAg, hback lq2 fq2 _ (hH.sub tSub)⟩
    · repeat' (first | refine stp ?_ | (refine g_guard ?_; (first | refine r_guardD rfl rfl rfl (fun hg hp => ?_) (fun hg hp => ?_) | refine r_guard rfl rfl rfl (fun hg => ?_) (fun hg => ?_))) | (refine g_load ?_; (first | (refine p_loadSB hH rfl rfl tO ?_) | (refine p_loadRB hH rfl rfl (by omega) tO ?_) | (refine p_loadS hH rfl tW ?_))) | (refine g_call ?_; (first | (refine k_call (g := 52) Tryz.func52 rfl rfl hH (EvL.cons (EvK.any rfl) (EvL.cons (EvK.any rfl) EvL.nil)) (h52) tTk (ReadsAll.skip ReadsAll.same) (fun v H1 w hT hH => ?_); obtain ⟨rfl, lq2, fq2, rfl⟩ := hT; simp only [List.nil_append, List.cons_append] at hH) | (refine p_appendL hH rfl rfl (Reads1.own (v := .nilIface) (Sel.mem tSel)) rfl rfl rfl tO rfl (fun vb vc w hH => ?_)))) | refine n_buildSlice1 hH tE rfl rfl rfl rfl tN (fun g w hg hH => ?_) | (refine r_toInt Tryz.underlying183 Tryz.underlying3 rfl (wrap_small (by omega)) ?_) | (refine p_toTextS hH rfl rfl tO rfl ?_) | (refine g_store ?_; (first | refine n_store hH rfl tE rfl rfl tN (fun w hH => ?_) | refine n_storeA hH rfl rfl rfl rfl rfl tN (fun w hH => ?_))) | refine n_alloc hH tW (fun g w hg hH => ?_) | (refine g_box ?_; (first | refine p_boxA hH rfl (fun g w hg hH => ?_) | refine p_boxI hH rfl (fun g w hg hH => ?_) | refine p_boxL hH rfl (fun g w hg hH => ?_))) | (refine g_cond ?_; (first | refine c_condD rfl (fun hc hp => ?_) (fun hc hp => ?_) | refine c_cond rfl (fun hc => ?_) (fun hc => ?_))) | refine d_start (P := Tryz.prog) hH (fun hH => ?_) | (refine g_any ?_; (first | (apply d_done; exact rfl; kernel_rfl) | (apply d_next; exact rfl; exact rfl; exact rfl; kernel_rfl; (first | (simp only [falses, setB]; exact rfl) | exact rfl); exact hH.sub tSub; (intro w hH; (repeat (first | refine stpO ?_ | (refine g_load ?_; (first | (refine p_loadS hH rfl tW ?_))))); exact r_nil one_end)) | (apply d_split; exact rfl; exact rfl; exact rfl; exact rfl; exact rfl; intro hg; rotate_left; intro hg; rotate_right) | (apply d_all1; exact rfl; kernel_rfl; exact rfl; exact rfl) | (apply d_all2; exact rfl; kernel_rfl; exact rfl; exact rfl; exact rfl; exact rfl) | (apply d_all3; exact rfl; kernel_rfl; exact rfl; exact rfl; exact rfl; exact rfl; exact rfl; exact rfl))) | refine then_end (hH.sub tSub) ?_)
      all_goals exact ⟨(i + 1, { X1 with err := some ⟨some k, kc⟩ }, lq2, fq2), _, _, by simp; omega, rfl, tAg, hback lq2 fq2 _ (hH.sub tSub)⟩
  · have hfin : Hp.feedP s b = (i, q) := by
      by_cases hlt : i < b.length
      · have hst : q.stops = true := by
          cases hw : q.whole with
          | true => simp [Hp.PS.stops, hw]
          | false =>
            cases he : q.err with
            | none => exact absurd ⟨hlt, hw, he⟩ hgo
            | some e => simp [Hp.PS.stops, hw, he]
        rw [hfeed, feed_stop q _ hst]; simp
      · rw [hfeed, List.drop_of_length_le (by omega)]; simp [Hp.feedP]
    rw [hfin]
    obtain ⟨z, hz⟩ : ∃ z, q.err = z := ⟨_, rfl⟩
    have h53 : CallsA Tryz.prog 53 (List.toArray [errP z]) (GL G) [] (fun u H' => u = .int .i64 (Hp.codeP q : Int) ∧ H' = []) := by
      unfold Hp.codeP
      rw [hz]
      rcases z with _ | ⟨_ | k, kc⟩
      · have := c53n
        unfold CallsA at this ⊢
        exact fun w hw => (this w (holds_lessR hw)).mono fun e w' ⟨v, H', he, ht, hh⟩ => ⟨v, H', he, ht, holds_moreR hw hh⟩
      · exact c53 G none (kc : Int)
      · exact c53 G (some (k : Int)) (kc : Int)
    rw [hz] at hH
    by_cases hlt : i < b.length
    · have k1 : decide ((i : Int) < (b.length : Int)) = true := by simpa using hlt
      by_cases hw : q.whole = true
      · have k2 : (!q.whole) = false := by rw [hw]; rfl
        have k3 : q.whole = true := hw
        repeat' (first | refine stp ?_ | (refine g_guard ?_; (first | refine r_guardD rfl rfl rfl (fun hg hp => ?_) (fun hg hp => ?_) | refine r_guard rfl rfl rfl (fun hg => ?_) (fun hg => ?_))) | (refine g_load ?_; (first | (refine p_loadSB hH rfl rfl tO ?_) | (refine p_loadRB hH rfl rfl (by omega) tO ?_) | (refine p_loadS hH rfl tW ?_))) | (refine g_call ?_; (first | (refine k_call (g := 53) Tryz.func53 rfl rfl hH (EvL.cons (EvK.any rfl) EvL.nil) (h53) tTk tRd (fun v H1 w hT hH => ?_); obtain ⟨rfl, rfl⟩ := hT; simp only [List.nil_append, List.cons_append] at hH) | (refine p_appendL hH rfl rfl (Reads1.own (v := .nilIface) (Sel.mem tSel)) rfl rfl rfl tO rfl (fun vb vc w hH => ?_)))) | refine n_buildSlice1 hH tE rfl rfl rfl rfl tN (fun g w hg hH => ?_) | (refine r_toInt Tryz.underlying183 Tryz.underlying3 rfl (wrap_small (by omega)) ?_) | (refine p_toTextS hH rfl rfl tO rfl ?_) | (refine g_store ?_; (first | refine n_store hH rfl tE rfl rfl tN (fun w hH => ?_) | refine n_storeA hH rfl rfl rfl rfl rfl tN (fun w hH => ?_))) | refine n_alloc hH tW (fun g w hg hH => ?_) | (refine g_box ?_; (first | refine p_boxA hH rfl (fun g w hg hH => ?_) | refine p_boxI hH rfl (fun g w hg hH => ?_) | refine p_boxL hH rfl (fun g w hg hH => ?_))) | (refine g_cond ?_; (first | refine c_condD rfl (fun hc hp => ?_) (fun hc hp => ?_) | refine c_cond rfl (fun hc => ?_) (fun hc => ?_))) | refine d_start (P := Tryz.prog) hH (fun hH => ?_) | (refine g_any ?_; (first | (apply d_done; exact rfl; kernel_rfl) | (apply d_next; exact rfl; exact rfl; exact rfl; kernel_rfl; (first | (simp only [falses, setB]; exact rfl) | exact rfl); exact hH.sub tSub; (intro w hH; (repeat (first | refine stpO ?_ | (refine g_load ?_; (first | (refine p_loadS hH rfl tW ?_))))); exact r_nil one_end)) | (apply d_split; exact rfl; exact rfl; exact rfl; exact rfl; exact rfl; intro hg; rotate_left; intro hg; rotate_right) | (apply d_all1; exact rfl; kernel_rfl; exact rfl; exact rfl) | (apply d_all2; exact rfl; kernel_rfl; exact rfl; exact rfl; exact rfl; exact rfl) | (apply d_all3; exact rfl; kernel_rfl; exact rfl; exact rfl; exact rfl; exact rfl; exact rfl; exact rfl))) | refine then_end (hH.sub tSub) ?_)
        all_goals refine e_end (H1 := [.pt p 100 (parV p q lq fq (errP z)), lineO q lq, fldO q fq]) (res3 rfl rfl rfl rfl) hH ⟨rfl, lq, fq, by rw [hz]⟩ tTk
      · have hw := eq_false_of_ne_true hw
        have k2 : (!q.whole) = true := by rw [hw]; rfl
        rcases z with _ | ⟨_ | k, kc⟩
        · exact absurd ⟨hlt, hw, hz⟩ hgo
        · repeat' (first | refine stp ?_ | (refine g_guard ?_; (first | refine r_guardD rfl rfl rfl (fun hg hp => ?_) (fun hg hp => ?_) | refine r_guard rfl rfl rfl (fun hg => ?_) (fun hg => ?_))) | (refine g_load ?_; (first | (refine p_loadSB hH rfl rfl tO ?_) | (refine p_loadRB hH rfl rfl (by omega) tO ?_) | (refine p_loadS hH rfl tW ?_))) | (refine g_call ?_; (first | (refine k_call (g := 53) Tryz.func53 rfl rfl hH (EvL.cons (EvK.any rfl) EvL.nil) (h53) tTk tRd (fun v H1 w hT hH => ?_); obtain ⟨rfl, rfl⟩ := hT; simp only [List.nil_append, List.cons_append] at hH) | (refine p_appendL hH rfl rfl (Reads1.own (v := .nilIface) (Sel.mem tSel)) rfl rfl rfl tO rfl (fun vb vc w hH => ?_)))) | refine n_buildSlice1 hH tE rfl rfl rfl rfl tN (fun g w hg hH => ?_) | (refine r_toInt Tryz.underlying183 Tryz.underlying3 rfl (wrap_small (by omega)) ?_) | (refine p_toTextS hH rfl rfl tO rfl ?_) | (refine g_store ?_; (first | refine n_store hH rfl tE rfl rfl tN (fun w hH => ?_) | refine n_storeA hH rfl rfl rfl rfl rfl tN (fun w hH => ?_))) | refine n_alloc hH tW (fun g w hg hH => ?_) | (refine g_box ?_; (first | refine p_boxA hH rfl (fun g w hg hH => ?_) | refine p_boxI hH rfl (fun g w hg hH => ?_) | refine p_boxL hH rfl (fun g w hg hH => ?_))) | (refine g_cond ?_; (first | refine c_condD rfl (fun hc hp => ?_) (fun hc hp => ?_) | refine c_cond rfl (fun hc => ?_) (fun hc => ?_))) | refine d_start (P := Tryz.prog) hH (fun hH => ?_) | (refine g_any ?_; (first | (apply d_done; exact rfl; kernel_rfl) | (apply d_next; exact rfl; exact rfl; exact rfl; kernel_rfl; (first | (simp only [falses, setB]; exact rfl) | exact rfl); exact hH.sub tSub; (intro w hH; (repeat (first | refine stpO ?_ | (refine g_load ?_; (first | (refine p_loadS hH rfl tW ?_))))); exact r_nil one_end)) | (apply d_split; exact rfl; exact rfl; exact rfl; exact rfl; exact rfl; intro hg; rotate_left; intro hg; rotate_right) | (apply d_all1; exact rfl; kernel_rfl; exact rfl; exact rfl) | (apply d_all2; exact rfl; kernel_rfl; exact rfl; exact rfl; exact rfl; exact rfl) | (apply d_all3; exact rfl; kernel_rfl; exact rfl; exact rfl; exact rfl; exact rfl; exact rfl; exact rfl))) | refine then_end (hH.sub tSub) ?_)
          all_goals refine e_end (H1 := [.pt p 100 (parV p q lq fq (errP (some ⟨none, kc⟩))), lineO q lq, fldO q fq]) (res3 rfl rfl rfl rfl) hH ⟨rfl, lq, fq, by rw [hz]⟩ tTk
        · repeat' (first | refine stp ?_ | (refine g_guard ?_; (first | refine r_guardD rfl rfl rfl (fun hg hp => ?_) (fun hg hp => ?_) | refine r_guard rfl rfl rfl (fun hg => ?_) (fun hg => ?_))) | (refine g_load ?_; (first | (refine p_loadSB hH rfl rfl tO ?_) | (refine p_loadRB hH rfl rfl (by omega) tO ?_) | (refine p_loadS hH rfl tW ?_))) | (refine g_call ?_; (first | (refine k_call (g := 53) Tryz.func53 rfl rfl hH (EvL.cons (EvK.any rfl) EvL.nil) (h53) tTk tRd (fun v H1 w hT hH => ?_); obtain ⟨rfl, rfl⟩ := hT; simp only [List.nil_append, List.cons_append] at hH) | (refine p_appendL hH rfl rfl (Reads1.own (v := .nilIface) (Sel.mem tSel)) rfl rfl rfl tO rfl (fun vb vc w hH => ?_)))) | refine n_buildSlice1 hH tE rfl rfl rfl rfl tN (fun g w hg hH => ?_) | (refine r_toInt Tryz.underlying183 Tryz.underlying3 rfl (wrap_small (by omega)) ?_) | (refine p_toTextS hH rfl rfl tO rfl ?_) | (refine g_store ?_; (first | refine n_store hH rfl tE rfl rfl tN (fun w hH => ?_) | refine n_storeA hH rfl rfl rfl rfl rfl tN (fun w hH => ?_))) | refine n_alloc hH tW (fun g w hg hH => ?_) | (refine g_box ?_; (first | refine p_boxA hH rfl (fun g w hg hH => ?_) | refine p_boxI hH rfl (fun g w hg hH => ?_) | refine p_boxL hH rfl (fun g w hg hH => ?_))) | (refine g_cond ?_; (first | refine c_condD rfl (fun hc hp => ?_) (fun hc hp => ?_) | refine c_cond rfl (fun hc => ?_) (fun hc => ?_))) | refine d_start (P := Tryz.prog) hH (fun hH => ?_) | (refine g_any ?_; (first | (apply d_done; exact rfl; kernel_rfl) | (apply d_next; exact rfl; exact rfl; exact rfl; kernel_rfl; (first | (simp only [falses, setB]; exact rfl) | exact rfl); exact hH.sub tSub; (intro w hH; (repeat (first | refine stpO ?_ | (refine g_load ?_; (first | (refine p_loadS hH rfl tW ?_))))); exact r_nil one_end)) | (apply d_split; exact rfl; exact rfl; exact rfl; exact rfl; exact rfl; intro hg; rotate_left; intro hg; rotate_right) | (apply d_all1; exact rfl; kernel_rfl; exact rfl; exact rfl) | (apply d_all2; exact rfl; kernel_rfl; exact rfl; exact rfl; exact rfl; exact rfl) | (apply d_all3; exact rfl; kernel_rfl; exact rfl; exact rfl; exact rfl; exact rfl; exact rfl; exact rfl))) | refine then_end (hH.sub tSub) ?_)
          all_goals refine e_end (H1 := [.pt p 100 (parV p q lq fq (errP (some ⟨some k, kc⟩))), lineO q lq, fldO q fq]) (res3 rfl rfl rfl rfl) hH ⟨rfl, lq, fq, by rw [hz]⟩ tTk
    · have k1 : decide ((i : Int) < (b.length : Int)) = false := by simpa using hlt
      repeat' (first | refine stp ?_ | (refine g_guard ?_; (first | refine r_guardD rfl rfl rfl (fun hg hp => ?_) (fun hg hp => ?_) | refine r_guard rfl rfl rfl (fun hg => ?_) (fun hg => ?_))) | (refine g_load ?_; (first | (refine p_loadSB hH rfl rfl tO ?_) | (refine p_loadRB hH rfl rfl (by omega) tO ?_) | (refine p_loadS hH rfl tW ?_))) | (refine g_call ?_; (first | (refine k_call (g := 53) Tryz.func53 rfl rfl hH (EvL.cons (EvK.any rfl) EvL.nil) (h53) tTk tRd (fun v H1 w hT hH => ?_); obtain ⟨rfl, rfl⟩ := hT; simp only [List.nil_append, List.cons_append] at hH) | (refine p_appendL hH rfl rfl (Reads1.own (v := .nilIface) (Sel.mem tSel)) rfl rfl rfl tO rfl (fun vb vc w hH => ?_)))) | refine n_buildSlice1 hH tE rfl rfl rfl rfl tN (fun g w hg hH => ?_) | (refine r_toInt Tryz.underlying183 Tryz.underlying3 rfl (wrap_small (by omega)) ?_) | (refine p_toTextS hH rfl rfl tO rfl ?_) | (refine g_store ?_; (first | refine n_store hH rfl tE rfl rfl tN (fun w hH => ?_) | refine n_storeA hH rfl rfl rfl rfl rfl tN (fun w hH => ?_))) | refine n_alloc hH tW (fun g w hg hH => ?_) | (refine g_box ?_; (first | refine p_boxA hH rfl (fun g w hg hH => ?_) | refine p_boxI hH rfl (fun g w hg hH => ?_) | refine p_boxL hH rfl (fun g w hg hH => ?_))) | (refine g_cond ?_; (first | refine c_condD rfl (fun hc hp => ?_) (fun hc hp => ?_) | refine c_cond rfl (fun hc => ?_) (fun hc => ?_))) | refine d_start (P := Tryz.prog) hH (fun hH => ?_) | (refine g_any ?_; (first | (apply d_done; exact rfl; kernel_rfl) | (apply d_next; exact rfl; exact rfl; exact rfl; kernel_rfl; (first | (simp only [falses, setB]; exact rfl) | exact rfl); exact hH.sub tSub; (intro w hH; (repeat (first | refine stpO ?_ | (refine g_load ?_; (first | (refine p_loadS hH rfl tW ?_))))); exact r_nil one_end)) | (apply d_split; exact rfl; exact rfl; exact rfl; exact rfl; exact rfl; intro hg; rotate_left; intro hg; rotate_right) | (apply d_all1; exact rfl; kernel_rfl; exact rfl; exact rfl) | (apply d_all2; exact rfl; kernel_rfl; exact rfl; exact rfl; exact rfl; exact rfl) | (apply d_all3; exact rfl; kernel_rfl; exact rfl; exact rfl; exact rfl; exact rfl; exact rfl; exact rfl))) | refine then_end (hH.sub tSub) ?_)
      all_goals refine e_end (H1 := [.pt p 100 (parV p q lq fq (errP z)), lineO q lq, fldO q fq]) (res3 rfl rfl rfl rfl) hH ⟨rfl, lq, fq, by rw [hz]⟩ tTk

end Go.Proofs.YtiofekhdicfmoaaGreatDoor
