import Derived.Test.YtiofekhdicfmoaaGreatDoorMF
import Derived.Test.YtiofekhdicfmoaaGreatDoorMA
import Derived.KernelRfl
set_option linter.all false
namespace Go.Proofs.YtiofekhdicfmoaaGreatDoor
open Go Go.Hr
attribute [local irreducible] Go.wpList Go.Code.wp Go.Calls Go.Hr.CallsA Go.wpAnyH Go.callFunc Go.callMethod Go.Instr.typeAssert Go.Sem.run
set_option maxHeartbeats 4000000
set_option linter.all false

/-! ### the parser in memory -/
def fldV (fs : List Hp.FieldP) : List Value := fs.flatMap fun f => [.string ⟨f.name.toArray⟩, .string ⟨f.value.toArray⟩]
theorem fldV_len (fs : List Hp.FieldP) : (fldV fs).length = fs.length * 2 := by
  induction fs with
  | nil => rfl
  | cons a r ih => simp [fldV] at ih ⊢; omega
def stF (p : Nat) : Hp.StP → Value
  | .request => .func (.func 69) (List.toArray [.pointer (some ⟨p, 0, none⟩)]) (List.toArray [])
  | .response => .func (.func 68) (List.toArray [.pointer (some ⟨p, 0, none⟩)]) (List.toArray [])
  | .field => .func (.func 87) (List.toArray [.pointer (some ⟨p, 0, none⟩)]) (List.toArray [])
def errP : Option Hp.ErrP → Value
  | none => .nilIface
  | some ⟨none, c⟩ => .iface 129 (.agg (List.toArray [.int .i64 (c : Int)]))
  | some ⟨some k, c⟩ => .iface 127 (.agg (List.toArray [.int .i64 (k : Int), .iface 129 (.agg (List.toArray [.int .i64 (c : Int)]))]))
abbrev parV (p : Nat) (s : Hp.PS) (lv fv : Value) (ev : Value) : List Value :=
  [.int .i64 (s.most : Int), .int .i64 (s.read : Int), .int .i64 (s.lines : Int), lv, stF p s.st, .bool s.head.request, .string ⟨s.head.method.toArray⟩, .string ⟨s.head.target.toArray⟩, .int .i64 s.head.minor, .int .i64 s.head.status, .string ⟨s.head.reason.toArray⟩, fv, .bool s.whole, ev]
abbrev fldO (s : Hp.PS) (fv : Value) : Own := .sl fv 37 2 s.head.fields.length (fldV s.head.fields)
theorem refV0 : refV 0 = .nilIface := rfl
theorem refVs (c : Nat) (h : c ≠ 0) : refV c = .iface 129 (.agg (List.toArray [.int .i64 (c : Int)])) := by simp [refV, h]
/-- What a state does. -/
abbrev StT (p : Nat) (s : Hp.PS) (lv ev : Value) (r : Hp.PS × Nat) (v : Value) (H' : List Own) : Prop :=
  v = refV r.2 ∧ ∃ fv', H' = [.pt p 100 (parV p r.1 lv fv' ev), fldO r.1 fv']
theorem fieldLine_eq (n : Nat) (t : List UInt8) (h0 : t ≠ []) : Hp.fieldLine n t = if Hp.blankP (t.getD 0 0) then .error 82 else match Hp.cutP 58 t with
    | none => .error 84
    | some (a, b) => if Hp.lastBlank a then .error 83 else if !Hp.tokenP a then .error 70 else if !Hp.valueP (Hp.trimP b) then .error 71 else if n = 100 then .error 85 else .ok ⟨a, Hp.trimP b⟩ := by
  cases t with
  | nil => exact absurd rfl h0
  | cons x r => rfl
theorem lastBlank_nil : Hp.lastBlank [] = false := rfl
theorem lastBlank_eq (a : List UInt8) (h : a ≠ []) : Hp.lastBlank a = Hp.blankP (a.getD (a.length - 1) 0) := by
  obtain ⟨r, c, rfl⟩ : ∃ r c, a = r ++ [c] := ⟨a.dropLast, a.getLast h, (List.dropLast_concat_getLast h).symm⟩
  simp [Hp.lastBlank]
theorem fieldP_err {s : Hp.PS} {t : List UInt8} {e : Nat} (h0 : t ≠ []) (h : Hp.fieldLine s.head.fields.length t = .error e) : Hp.fieldP s t = (s, e) := by
  unfold Hp.fieldP
  rw [if_neg h0, h]
theorem fieldP_ok {s : Hp.PS} {t : List UInt8} {f : Hp.FieldP} (h0 : t ≠ []) (h : Hp.fieldLine s.head.fields.length t = .ok f) : Hp.fieldP s t = ({ s with head := { s.head with fields := s.head.fields ++ [f] } }, 0) := by
  unfold Hp.fieldP
  rw [if_neg h0, h]
theorem trimP_len (b : List UInt8) : (Hp.trimP b).length ≤ b.length := by
  rw [← trim_eq]
  exact Nat.le_trans ((List.dropWhile_sublist _).length_le) (trimR_len b)
theorem c87 (G : Glob) (p : Nat) (s : Hp.PS) (lv fv ev : Value) (t : List UInt8) (ht : t.length ≤ 1048576) (hf : s.head.fields.length ≤ 100) :
    CallsA Tryz.prog 87 (List.toArray [.pointer (some ⟨p, 0, none⟩), .string ⟨t.toArray⟩]) (GL G) [.pt p 100 (parV p s lv fv ev), fldO s fv] (StT p s lv ev (Hp.fieldP s t)) := by
  by_cases h0 : t = []
  · subst h0
    refine callsA_of (args := [_, _]) Tryz.func87 rfl Tryz.ntmps87 (by simp) ?_
    intro w0 hH
    repeat' (first | refine stp ?_ | (refine g_guard ?_; (first | refine r_guardD rfl rfl rfl (fun hg hp => ?_) (fun hg hp => ?_) | refine r_guard rfl rfl rfl (fun hg => ?_) (fun hg => ?_))) | (refine g_load ?_; (first | (refine p_loadSB hH rfl rfl tO ?_) | (refine p_loadRB hH rfl rfl (by omega) tO ?_) | (refine p_loadS hH rfl tW ?_))) | (refine g_call ?_; (first | (refine p_appendL hH rfl rfl (Reads1.own (v := .nilIface) (Sel.mem tSel)) rfl rfl rfl tO rfl (fun vb vc w hH => ?_)))) | refine n_buildSlice1 hH tE rfl rfl rfl rfl tN (fun g w hg hH => ?_) | (refine r_toInt Tryz.underlying183 Tryz.underlying3 rfl (wrap_small (by omega)) ?_) | (refine p_toTextS hH rfl rfl tO rfl ?_) | (refine g_store ?_; (first | refine n_store hH rfl tE rfl rfl tN (fun w hH => ?_) | refine n_storeA hH rfl rfl rfl rfl rfl tN (fun w hH => ?_))) | refine n_alloc hH tW (fun g w hg hH => ?_) | (refine g_box ?_; (first | refine p_boxA hH rfl (fun g w hg hH => ?_) | refine p_boxI hH rfl (fun g w hg hH => ?_) | refine p_boxL hH rfl (fun g w hg hH => ?_))) | (refine g_cond ?_; (first | refine c_condD rfl (fun hc hp => ?_) (fun hc hp => ?_) | refine c_cond rfl (fun hc => ?_) (fun hc => ?_))) | refine d_start (P := Tryz.prog) hH (fun hH => ?_) | (refine g_any ?_; (first | (apply d_done; exact rfl; kernel_rfl) | (apply d_next; exact rfl; exact rfl; exact rfl; kernel_rfl; (first | (simp only [falses, setB]; exact rfl) | exact rfl); exact hH.sub tSub; (intro w hH; (repeat (first | refine stpO ?_ | (refine g_load ?_; (first | (refine p_loadS hH rfl tW ?_))))); exact r_nil one_end)) | (apply d_split; exact rfl; exact rfl; exact rfl; exact rfl; exact rfl; intro hg; rotate_left; intro hg; rotate_right) | (apply d_all1; exact rfl; kernel_rfl; exact rfl; exact rfl) | (apply d_all2; exact rfl; kernel_rfl; exact rfl; exact rfl; exact rfl; exact rfl) | (apply d_all3; exact rfl; kernel_rfl; exact rfl; exact rfl; exact rfl; exact rfl; exact rfl; exact rfl))) | refine then_end (hH.sub tSub) ?_)
    all_goals refine e_end (H1 := [.pt p 100 (parV p (Hp.fieldP s []).1 lv fv ev), fldO (Hp.fieldP s []).1 fv]) (res1 rfl tW) hH ⟨?_, _, rfl⟩ tTk
    all_goals rfl
  · have hd0 : decide (t = ([] : List UInt8)) = false := by simpa using h0
    have hlen : 0 < t.length := List.length_pos_iff.2 h0
    have h119 := c119 t 58 (by omega)
    unfold cutV at h119
    have hfl := fieldLine_eq s.head.fields.length t h0
    cases hc : Hp.cutP 58 t with
    | none =>
      rw [hc] at h119 hfl
      simp only at h119 hfl
      refine callsA_of (args := [_, _]) Tryz.func87 rfl Tryz.ntmps87 (by simp) ?_
      intro w0 hH
      repeat' (first | refine stp ?_ | (refine g_guard ?_; (first | refine r_guardD rfl rfl rfl (fun hg hp => ?_) (fun hg hp => ?_) | refine r_guard rfl rfl rfl (fun hg => ?_) (fun hg => ?_))) | (refine g_load ?_; (first | (refine p_loadSB hH rfl rfl tO ?_) | (refine p_loadRB hH rfl rfl (by omega) tO ?_) | (refine p_loadS hH rfl tW ?_))) | (refine g_call ?_; (first | (refine k_call (g := 119) Tryz.func119 rfl rfl hH (EvL.cons (EvK.any rfl) (EvL.cons (EvK.any rfl) EvL.nil)) (h119) tTk tRd (fun v H1 w hT hH => ?_); obtain ⟨rfl, rfl⟩ := hT; simp only [List.nil_append, List.cons_append] at hH) | (refine k_call (g := 116) Tryz.func116 rfl rfl hH (EvL.cons (EvK.any rfl) EvL.nil) (c116 _ (by simp)) tTk tRd (fun v H1 w hT hH => ?_); obtain ⟨rfl, rfl⟩ := hT; simp only [List.nil_append, List.cons_append] at hH) | (refine k_call (g := 120) Tryz.func120 rfl rfl hH (EvL.cons (EvK.any rfl) EvL.nil) (c120 _) tTk tRd (fun v H1 w hT hH => ?_); obtain ⟨rfl, rfl⟩ := hT; simp only [List.nil_append, List.cons_append] at hH) | (refine k_call (g := 70) Tryz.func70 rfl rfl hH (EvL.cons (EvK.any rfl) EvL.nil) (c70 _) tTk tRd (fun v H1 w hT hH => ?_); obtain ⟨rfl, rfl⟩ := hT; simp only [List.nil_append, List.cons_append] at hH) | (refine p_appendL hH rfl rfl (Reads1.own (v := .nilIface) (Sel.mem tSel)) rfl rfl rfl tO rfl (fun vb vc w hH => ?_)))) | refine n_buildSlice1 hH tE rfl rfl rfl rfl tN (fun g w hg hH => ?_) | (refine r_toInt Tryz.underlying183 Tryz.underlying3 rfl (wrap_small (by omega)) ?_) | (refine p_toTextS hH rfl rfl tO rfl ?_) | (refine g_store ?_; (first | refine n_store hH rfl tE rfl rfl tN (fun w hH => ?_) | refine n_storeA hH rfl rfl rfl rfl rfl tN (fun w hH => ?_))) | refine n_alloc hH tW (fun g w hg hH => ?_) | (refine g_box ?_; (first | refine p_boxA hH rfl (fun g w hg hH => ?_) | refine p_boxI hH rfl (fun g w hg hH => ?_) | refine p_boxL hH rfl (fun g w hg hH => ?_))) | (refine g_cond ?_; (first | refine c_condD rfl (fun hc hp => ?_) (fun hc hp => ?_) | refine c_cond rfl (fun hc => ?_) (fun hc => ?_))) | refine d_start (P := Tryz.prog) hH (fun hH => ?_) | (refine g_any ?_; (first | (apply d_done; exact rfl; kernel_rfl) | (apply d_next; exact rfl; exact rfl; exact rfl; kernel_rfl; (first | (simp only [falses, setB]; exact rfl) | exact rfl); exact hH.sub tSub; (intro w hH; (repeat (first | refine stpO ?_ | (refine g_load ?_; (first | (refine p_loadS hH rfl tW ?_))))); exact r_nil one_end)) | (apply d_split; exact rfl; exact rfl; exact rfl; exact rfl; exact rfl; intro hg; rotate_left; intro hg; rotate_right) | (apply d_all1; exact rfl; kernel_rfl; exact rfl; exact rfl) | (apply d_all2; exact rfl; kernel_rfl; exact rfl; exact rfl; exact rfl; exact rfl) | (apply d_all3; exact rfl; kernel_rfl; exact rfl; exact rfl; exact rfl; exact rfl; exact rfl; exact rfl))) | refine then_end (hH.sub tSub) ?_)
      all_goals first | (rw [fieldP_err h0 (show Hp.fieldLine s.head.fields.length t = .error 82 by clear hH; first | (simp_all [-List.getD_eq_getElem?_getD]; done) | (simp_all [-List.getD_eq_getElem?_getD]; omega))]; exact e_end (H1 := [.pt p 100 (parV p s lv _ ev), fldO s _]) (res1 rfl rfl) hH ⟨rfl, _, rfl⟩ tTk) | (rw [fieldP_err h0 (show Hp.fieldLine s.head.fields.length t = .error 84 by clear hH; first | (simp_all [-List.getD_eq_getElem?_getD]; done) | (simp_all [-List.getD_eq_getElem?_getD]; omega))]; exact e_end (H1 := [.pt p 100 (parV p s lv _ ev), fldO s _]) (res1 rfl rfl) hH ⟨rfl, _, rfl⟩ tTk)
    | some q =>
      obtain ⟨a, b⟩ := q
      rw [hc] at h119 hfl
      simp only at h119 hfl
      have hcs := Hp.cut_some hc
      have hlens : a.length + 1 + b.length = t.length := by rw [hcs.1]; simp; omega
      have htl := trimP_len b
      by_cases ha : a = []
      · have ha1 : decide (a ≠ ([] : List UInt8)) = false := by simpa using ha
        have ha2 : Hp.lastBlank a = false := by rw [ha]; rfl
        refine callsA_of (args := [_, _]) Tryz.func87 rfl Tryz.ntmps87 (by simp) ?_
        intro w0 hH
        obtain ⟨fa, fc, rfl, hfc, _⟩ := hH.form0 (v := fv) (Sel.there (Sel.here _ _))
        repeat' (first | refine stp ?_ | (refine g_guard ?_; (first | refine r_guardD rfl rfl rfl (fun hg hp => ?_) (fun hg hp => ?_) | refine r_guard rfl rfl rfl (fun hg => ?_) (fun hg => ?_))) | (refine g_load ?_; (first | (refine p_loadSB hH rfl rfl tO ?_) | (refine p_loadRB hH rfl rfl (by omega) tO ?_) | (refine p_loadS hH rfl tW ?_))) | (refine g_call ?_; (first | (refine k_call (g := 119) Tryz.func119 rfl rfl hH (EvL.cons (EvK.any rfl) (EvL.cons (EvK.any rfl) EvL.nil)) (h119) tTk tRd (fun v H1 w hT hH => ?_); obtain ⟨rfl, rfl⟩ := hT; simp only [List.nil_append, List.cons_append] at hH) | (refine k_call (g := 116) Tryz.func116 rfl rfl hH (EvL.cons (EvK.any rfl) EvL.nil) (c116 _ (by omega)) tTk tRd (fun v H1 w hT hH => ?_); obtain ⟨rfl, rfl⟩ := hT; simp only [List.nil_append, List.cons_append] at hH) | (refine k_call (g := 120) Tryz.func120 rfl rfl hH (EvL.cons (EvK.any rfl) EvL.nil) (c120 _) tTk tRd (fun v H1 w hT hH => ?_); obtain ⟨rfl, rfl⟩ := hT; simp only [List.nil_append, List.cons_append] at hH) | (refine k_call (g := 70) Tryz.func70 rfl rfl hH (EvL.cons (EvK.any rfl) EvL.nil) (c70 _) tTk tRd (fun v H1 w hT hH => ?_); obtain ⟨rfl, rfl⟩ := hT; simp only [List.nil_append, List.cons_append] at hH) | (refine k_call (g := 58) Tryz.func58 rfl rfl hH (EvL.cons (EvK.any rfl) EvL.nil) (c58 _ (by omega)) tTk tRd (fun v H1 w hT hH => ?_); obtain ⟨rfl, rfl⟩ := hT; simp only [List.nil_append, List.cons_append] at hH) | (refine k_call (g := 84) Tryz.func84 rfl rfl hH (EvL.cons (EvK.any rfl) EvL.nil) (c84 _ (by omega)) tTk tRd (fun v H1 w hT hH => ?_); obtain ⟨rfl, rfl⟩ := hT; simp only [List.nil_append, List.cons_append] at hH) | (refine p_appendL hH rfl rfl (Reads1.own (v := .nilIface) (Sel.mem tSel)) rfl rfl rfl tO rfl (fun vb vc w hH => ?_)))) | refine n_buildSlice1 hH tE rfl rfl rfl rfl tN (fun g w hg hH => ?_) | (refine r_toInt Tryz.underlying183 Tryz.underlying3 rfl (wrap_small (by omega)) ?_) | (refine p_toTextS hH rfl rfl tO rfl ?_) | (refine g_store ?_; (first | refine n_store hH rfl tE rfl rfl tN (fun w hH => ?_) | refine n_storeA hH rfl rfl rfl rfl rfl tN (fun w hH => ?_))) | refine n_alloc hH tW (fun g w hg hH => ?_) | (refine g_box ?_; (first | refine p_boxA hH rfl (fun g w hg hH => ?_) | refine p_boxI hH rfl (fun g w hg hH => ?_) | refine p_boxL hH rfl (fun g w hg hH => ?_))) | (refine g_cond ?_; (first | refine c_condD rfl (fun hc hp => ?_) (fun hc hp => ?_) | refine c_cond rfl (fun hc => ?_) (fun hc => ?_))) | refine d_start (P := Tryz.prog) hH (fun hH => ?_) | (refine g_any ?_; (first | (apply d_done; exact rfl; kernel_rfl) | (apply d_next; exact rfl; exact rfl; exact rfl; kernel_rfl; (first | (simp only [falses, setB]; exact rfl) | exact rfl); exact hH.sub tSub; (intro w hH; (repeat (first | refine stpO ?_ | (refine g_load ?_; (first | (refine p_loadS hH rfl tW ?_))))); exact r_nil one_end)) | (apply d_split; exact rfl; exact rfl; exact rfl; exact rfl; exact rfl; intro hg; rotate_left; intro hg; rotate_right) | (apply d_all1; exact rfl; kernel_rfl; exact rfl; exact rfl) | (apply d_all2; exact rfl; kernel_rfl; exact rfl; exact rfl; exact rfl; exact rfl) | (apply d_all3; exact rfl; kernel_rfl; exact rfl; exact rfl; exact rfl; exact rfl; exact rfl; exact rfl))) | refine then_end (hH.sub tSub) ?_)
        all_goals first | (rw [fieldP_err h0 (show Hp.fieldLine s.head.fields.length t = .error 82 by clear hH; first | (simp_all [-List.getD_eq_getElem?_getD]; done) | (simp_all [-List.getD_eq_getElem?_getD]; omega))]; exact e_end (H1 := [.pt p 100 (parV p s lv _ ev), fldO s _]) (res1 rfl rfl) hH ⟨rfl, _, rfl⟩ tTk) | (rw [fieldP_err h0 (show Hp.fieldLine s.head.fields.length t = .error 84 by clear hH; first | (simp_all [-List.getD_eq_getElem?_getD]; done) | (simp_all [-List.getD_eq_getElem?_getD]; omega))]; exact e_end (H1 := [.pt p 100 (parV p s lv _ ev), fldO s _]) (res1 rfl rfl) hH ⟨rfl, _, rfl⟩ tTk) | (rw [fieldP_err h0 (show Hp.fieldLine s.head.fields.length t = .error 83 by clear hH; first | (simp_all [-List.getD_eq_getElem?_getD]; done) | (simp_all [-List.getD_eq_getElem?_getD]; omega))]; exact e_end (H1 := [.pt p 100 (parV p s lv _ ev), fldO s _]) (res1 rfl rfl) hH ⟨rfl, _, rfl⟩ tTk) | (rw [fieldP_err h0 (show Hp.fieldLine s.head.fields.length t = .error 70 by clear hH; first | (simp_all [-List.getD_eq_getElem?_getD]; done) | (simp_all [-List.getD_eq_getElem?_getD]; omega))]; exact e_end (H1 := [.pt p 100 (parV p s lv _ ev), fldO s _]) (res1 rfl rfl) hH ⟨rfl, _, rfl⟩ tTk) | (rw [fieldP_err h0 (show Hp.fieldLine s.head.fields.length t = .error 71 by clear hH; first | (simp_all [-List.getD_eq_getElem?_getD]; done) | (simp_all [-List.getD_eq_getElem?_getD]; omega))]; exact e_end (H1 := [.pt p 100 (parV p s lv _ ev), fldO s _]) (res1 rfl rfl) hH ⟨rfl, _, rfl⟩ tTk) | (rw [fieldP_err h0 (show Hp.fieldLine s.head.fields.length t = .error 85 by clear hH; first | (simp_all [-List.getD_eq_getElem?_getD]; done) | (simp_all [-List.getD_eq_getElem?_getD]; omega))]; exact e_end (H1 := [.pt p 100 (parV p s lv _ ev), fldO s _]) (res1 rfl rfl) hH ⟨rfl, _, rfl⟩ tTk) | skip
        all_goals (rw [fieldP_ok h0 (show Hp.fieldLine s.head.fields.length t = .ok ⟨a, Hp.trimP b⟩ by clear hH; first | (simp_all [-List.getD_eq_getElem?_getD]; done) | (simp_all [-List.getD_eq_getElem?_getD]; omega))])
        all_goals refine e_end (H1 := [.pt p 100 (parV p { s with head := { s.head with fields := s.head.fields ++ [⟨a, Hp.trimP b⟩] } } lv (.slice vb (s.head.fields.length + 1) vc) ev), .sl (.slice vb (s.head.fields.length + 1) vc) 37 2 (s.head.fields.length + 1) (fldV s.head.fields ++ [.string ⟨a.toArray⟩, .string ⟨(Hp.trimP b).toArray⟩])]) (res1 rfl rfl) hH ⟨rfl, .slice vb (s.head.fields.length + 1) vc, ?_⟩ tTk
        all_goals simp [fldV]
      · have ha1 : decide (a ≠ ([] : List UInt8)) = true := by simpa using ha
        have hal : 0 < a.length := List.length_pos_iff.2 ha
        have ha2 := lastBlank_eq a ha
        have ha3 : ((a.length : Int) - 1).toNat = a.length - 1 := by omega
        refine callsA_of (args := [_, _]) Tryz.func87 rfl Tryz.ntmps87 (by simp) ?_
        intro w0 hH
        obtain ⟨fa, fc, rfl, hfc, _⟩ := hH.form0 (v := fv) (Sel.there (Sel.here _ _))
        repeat' (first | refine stp ?_ | (refine g_guard ?_; (first | refine r_guardD rfl rfl rfl (fun hg hp => ?_) (fun hg hp => ?_) | refine r_guard rfl rfl rfl (fun hg => ?_) (fun hg => ?_))) | (refine g_load ?_; (first | (refine p_loadSB hH rfl rfl tO ?_) | (refine p_loadRB hH rfl rfl (by omega) tO ?_) | (refine p_loadS hH rfl tW ?_))) | (refine g_call ?_; (first | (refine k_call (g := 119) Tryz.func119 rfl rfl hH (EvL.cons (EvK.any rfl) (EvL.cons (EvK.any rfl) EvL.nil)) (h119) tTk tRd (fun v H1 w hT hH => ?_); obtain ⟨rfl, rfl⟩ := hT; simp only [List.nil_append, List.cons_append] at hH) | (refine k_call (g := 116) Tryz.func116 rfl rfl hH (EvL.cons (EvK.any rfl) EvL.nil) (c116 _ (by omega)) tTk tRd (fun v H1 w hT hH => ?_); obtain ⟨rfl, rfl⟩ := hT; simp only [List.nil_append, List.cons_append] at hH) | (refine k_call (g := 120) Tryz.func120 rfl rfl hH (EvL.cons (EvK.any rfl) EvL.nil) (c120 _) tTk tRd (fun v H1 w hT hH => ?_); obtain ⟨rfl, rfl⟩ := hT; simp only [List.nil_append, List.cons_append] at hH) | (refine k_call (g := 70) Tryz.func70 rfl rfl hH (EvL.cons (EvK.any rfl) EvL.nil) (c70 _) tTk tRd (fun v H1 w hT hH => ?_); obtain ⟨rfl, rfl⟩ := hT; simp only [List.nil_append, List.cons_append] at hH) | (refine k_call (g := 58) Tryz.func58 rfl rfl hH (EvL.cons (EvK.any rfl) EvL.nil) (c58 _ (by omega)) tTk tRd (fun v H1 w hT hH => ?_); obtain ⟨rfl, rfl⟩ := hT; simp only [List.nil_append, List.cons_append] at hH) | (refine k_call (g := 84) Tryz.func84 rfl rfl hH (EvL.cons (EvK.any rfl) EvL.nil) (c84 _ (by omega)) tTk tRd (fun v H1 w hT hH => ?_); obtain ⟨rfl, rfl⟩ := hT; simp only [List.nil_append, List.cons_append] at hH) | (refine p_appendL hH rfl rfl (Reads1.own (v := .nilIface) (Sel.mem tSel)) rfl rfl rfl tO rfl (fun vb vc w hH => ?_)))) | refine n_buildSlice1 hH tE rfl rfl rfl rfl tN (fun g w hg hH => ?_) | (refine r_toInt Tryz.underlying183 Tryz.underlying3 rfl (wrap_small (by omega)) ?_) | (refine p_toTextS hH rfl rfl tO rfl ?_) | (refine g_store ?_; (first | refine n_store hH rfl tE rfl rfl tN (fun w hH => ?_) | refine n_storeA hH rfl rfl rfl rfl rfl tN (fun w hH => ?_))) | refine n_alloc hH tW (fun g w hg hH => ?_) | (refine g_box ?_; (first | refine p_boxA hH rfl (fun g w hg hH => ?_) | refine p_boxI hH rfl (fun g w hg hH => ?_) | refine p_boxL hH rfl (fun g w hg hH => ?_))) | (refine g_cond ?_; (first | refine c_condD rfl (fun hc hp => ?_) (fun hc hp => ?_) | refine c_cond rfl (fun hc => ?_) (fun hc => ?_))) | refine d_start (P := Tryz.prog) hH (fun hH => ?_) | (refine g_any ?_; (first | (apply d_done; exact rfl; kernel_rfl) | (apply d_next; exact rfl; exact rfl; exact rfl; kernel_rfl; (first | (simp only [falses, setB]; exact rfl) | exact rfl); exact hH.sub tSub; (intro w hH; (repeat (first | refine stpO ?_ | (refine g_load ?_; (first | (refine p_loadS hH rfl tW ?_))))); exact r_nil one_end)) | (apply d_split; exact rfl; exact rfl; exact rfl; exact rfl; exact rfl; intro hg; rotate_left; intro hg; rotate_right) | (apply d_all1; exact rfl; kernel_rfl; exact rfl; exact rfl) | (apply d_all2; exact rfl; kernel_rfl; exact rfl; exact rfl; exact rfl; exact rfl) | (apply d_all3; exact rfl; kernel_rfl; exact rfl; exact rfl; exact rfl; exact rfl; exact rfl; exact rfl))) | refine then_end (hH.sub tSub) ?_)
        all_goals try rw [ha3] at *
        all_goals first | (rw [fieldP_err h0 (show Hp.fieldLine s.head.fields.length t = .error 82 by clear hH; first | (simp_all [-List.getD_eq_getElem?_getD]; done) | (simp_all [-List.getD_eq_getElem?_getD]; omega))]; exact e_end (H1 := [.pt p 100 (parV p s lv _ ev), fldO s _]) (res1 rfl rfl) hH ⟨rfl, _, rfl⟩ tTk) | (rw [fieldP_err h0 (show Hp.fieldLine s.head.fields.length t = .error 84 by clear hH; first | (simp_all [-List.getD_eq_getElem?_getD]; done) | (simp_all [-List.getD_eq_getElem?_getD]; omega))]; exact e_end (H1 := [.pt p 100 (parV p s lv _ ev), fldO s _]) (res1 rfl rfl) hH ⟨rfl, _, rfl⟩ tTk) | (rw [fieldP_err h0 (show Hp.fieldLine s.head.fields.length t = .error 83 by clear hH; first | (simp_all [-List.getD_eq_getElem?_getD]; done) | (simp_all [-List.getD_eq_getElem?_getD]; omega))]; exact e_end (H1 := [.pt p 100 (parV p s lv _ ev), fldO s _]) (res1 rfl rfl) hH ⟨rfl, _, rfl⟩ tTk) | (rw [fieldP_err h0 (show Hp.fieldLine s.head.fields.length t = .error 70 by clear hH; first | (simp_all [-List.getD_eq_getElem?_getD]; done) | (simp_all [-List.getD_eq_getElem?_getD]; omega))]; exact e_end (H1 := [.pt p 100 (parV p s lv _ ev), fldO s _]) (res1 rfl rfl) hH ⟨rfl, _, rfl⟩ tTk) | (rw [fieldP_err h0 (show Hp.fieldLine s.head.fields.length t = .error 71 by clear hH; first | (simp_all [-List.getD_eq_getElem?_getD]; done) | (simp_all [-List.getD_eq_getElem?_getD]; omega))]; exact e_end (H1 := [.pt p 100 (parV p s lv _ ev), fldO s _]) (res1 rfl rfl) hH ⟨rfl, _, rfl⟩ tTk) | (rw [fieldP_err h0 (show Hp.fieldLine s.head.fields.length t = .error 85 by clear hH; first | (simp_all [-List.getD_eq_getElem?_getD]; done) | (simp_all [-List.getD_eq_getElem?_getD]; omega))]; exact e_end (H1 := [.pt p 100 (parV p s lv _ ev), fldO s _]) (res1 rfl rfl) hH ⟨rfl, _, rfl⟩ tTk) | skip
        all_goals (rw [fieldP_ok h0 (show Hp.fieldLine s.head.fields.length t = .ok ⟨a, Hp.trimP b⟩ by clear hH; first | (simp_all [-List.getD_eq_getElem?_getD]; done) | (simp_all [-List.getD_eq_getElem?_getD]; omega))])
        all_goals refine e_end (H1 := [.pt p 100 (parV p { s with head := { s.head with fields := s.head.fields ++ [⟨a, Hp.trimP b⟩] } } lv (.slice vb (s.head.fields.length + 1) vc) ev), .sl (.slice vb (s.head.fields.length + 1) vc) 37 2 (s.head.fields.length + 1) (fldV s.head.fields ++ [.string ⟨a.toArray⟩, .string ⟨(Hp.trimP b).toArray⟩])]) (res1 rfl rfl) hH ⟨rfl, .slice vb (s.head.fields.length + 1) vc, ?_⟩ tTk
        all_goals simp [fldV]

end Go.Proofs.YtiofekhdicfmoaaGreatDoor

namespace Go.Proofs.YtiofekhdicfmoaaGreatDoor
open Go Go.Hr
attribute [local irreducible] Go.wpList Go.Code.wp Go.Calls Go.Hr.CallsA Go.wpAnyH Go.callFunc Go.callMethod Go.Instr.typeAssert Go.Sem.run
set_option maxHeartbeats 4000000
set_option linter.all false

theorem split_sum (c : UInt8) (s : List UInt8) : ((Hp.splitP c s).map List.length).sum + (Hp.splitP c s).length = s.length + 1 := by
  induction s with
  | nil => rfl
  | cons x xs ih =>
    simp only [Hp.splitP]
    split
    · simp only [List.map_cons, List.length_nil, List.sum_cons, List.length_cons]; omega
    · cases h : Hp.splitP c xs with
      | nil => exact absurd h (Hp.split_ne c xs)
      | cons a r =>
        rw [h] at ih
        simp only [List.map_cons, List.sum_cons, List.length_cons] at ih ⊢
        omega
theorem c69 (G : Glob) (p : Nat) (s : Hp.PS) (lv fv ev : Value) (t : List UInt8) (ht : t.length ≤ 1048576) :
    CallsA Tryz.prog 69 (List.toArray [.pointer (some ⟨p, 0, none⟩), .string ⟨t.toArray⟩]) (GL G) [.pt p 100 (parV p s lv fv ev), fldO s fv] (StT p s lv ev (Hp.requestP s t)) := by
  by_cases h0 : t = [] ∧ s.lines ≤ 4
  · have hd0 : decide (t = ([] : List UInt8)) = true := by simpa using h0.1
    have hd1 : decide ((s.lines : Int) ≤ 4) = true := by simp; omega
    have hx : Hp.requestP s t = (s, 0) := by unfold Hp.requestP; rw [if_pos h0]
    rw [hx]
    refine callsA_of (args := [_, _]) Tryz.func69 rfl Tryz.ntmps69 (by simp) ?_
    intro w0 hH
    repeat' (first | refine stp ?_ | (refine g_guard ?_; (first | refine r_guardD rfl rfl rfl (fun hg hp => ?_) (fun hg hp => ?_) | refine r_guard rfl rfl rfl (fun hg => ?_) (fun hg => ?_))) | (refine g_load ?_; (first | (refine p_loadSB hH rfl rfl tO ?_) | (refine p_loadRB hH rfl rfl (by omega) tO ?_) | (refine p_loadS hH rfl tW ?_))) | (refine g_call ?_; (first | (refine p_appendL hH rfl rfl (Reads1.own (v := .nilIface) (Sel.mem tSel)) rfl rfl rfl tO rfl (fun vb vc w hH => ?_)))) | refine n_buildSlice1 hH tE rfl rfl rfl rfl tN (fun g w hg hH => ?_) | (refine r_toInt Tryz.underlying183 Tryz.underlying3 rfl (wrap_small (by omega)) ?_) | (refine p_toTextS hH rfl rfl tO rfl ?_) | (refine g_store ?_; (first | refine n_store hH rfl tE rfl rfl tN (fun w hH => ?_) | refine n_storeA hH rfl rfl rfl rfl rfl tN (fun w hH => ?_))) | refine n_alloc hH tW (fun g w hg hH => ?_) | (refine g_box ?_; (first | refine p_boxA hH rfl (fun g w hg hH => ?_) | refine p_boxI hH rfl (fun g w hg hH => ?_) | refine p_boxL hH rfl (fun g w hg hH => ?_))) | (refine g_cond ?_; (first | refine c_condD rfl (fun hc hp => ?_) (fun hc hp => ?_) | refine c_cond rfl (fun hc => ?_) (fun hc => ?_))) | refine d_startS (P := Tryz.prog) hH (Sub.keep Sub.nil) (fun hH => ?_) | refine d_start (P := Tryz.prog) hH (fun hH => ?_) | (refine g_any ?_; (first | (apply d_done; exact rfl; kernel_rfl) | (apply d_next; exact rfl; exact rfl; exact rfl; kernel_rfl; (first | (simp only [falses, setB]; exact rfl) | exact rfl); exact hH.sub tSub; (intro w hH; (repeat (first | refine stpO ?_ | (refine g_load ?_; (first | (refine p_loadS hH rfl tW ?_))))); exact r_nil one_end)) | (apply d_split; exact rfl; exact rfl; exact rfl; exact rfl; exact rfl; intro hg; rotate_left; intro hg; rotate_right) | (apply d_all1; exact rfl; kernel_rfl; exact rfl; exact rfl) | (apply d_all2; exact rfl; kernel_rfl; exact rfl; exact rfl; exact rfl; exact rfl) | (apply d_all3; exact rfl; kernel_rfl; exact rfl; exact rfl; exact rfl; exact rfl; exact rfl; exact rfl))) | refine then_end (hH.sub tSub) ?_)
    all_goals refine e_end (H1 := [.pt p 100 (parV p s lv fv ev), fldO s fv]) (res1 rfl rfl) hH ⟨rfl, _, rfl⟩ tTk
  · have hx0 : Hp.requestP s t = match Hp.splitP 32 t with
      | [a, b, c] => if Hp.tokenP a && Hp.visibleP b then ({ s with head := { s.head with method := a, target := b, minor := (Hp.versionP c).1 }, st := .field }, (Hp.versionP c).2) else (s, 80)
      | _ => (s, 80) := by unfold Hp.requestP; rw [if_neg h0]; rfl
    have h88 := c88 G t ht
    by_cases h3 : (Hp.splitP 32 t).length = 3
    · obtain ⟨a, b, c, hL⟩ : ∃ a b c, Hp.splitP 32 t = [a, b, c] := by
        match hh : Hp.splitP 32 t, h3 with
        | [a, b, c], _ => exact ⟨a, b, c, rfl⟩
      have hlen := split_sum 32 t
      rw [hL] at h88 hx0 hlen
      simp only [List.length_cons, List.length_nil, List.map_cons, List.map_nil, List.sum_cons, List.sum_nil] at hlen h88
      simp only at hx0
      rw [hx0]
      by_cases ht0 : t = []
      · have hd0 : decide (t = ([] : List UInt8)) = true := by simpa using ht0
        have hd1 : decide ((s.lines : Int) ≤ 4) = false := by simp; have : ¬ s.lines ≤ 4 := fun h => h0 ⟨ht0, h⟩; omega
        rw [ht0] at hL
        cases hL
      · have hd0 : decide (t = ([] : List UInt8)) = false := by simpa using ht0
        refine callsA_of (args := [_, _]) Tryz.func69 rfl Tryz.ntmps69 (by simp) ?_
        intro w0 hH
        repeat' (first | refine stp ?_ | (refine g_guard ?_; (first | refine r_guardD rfl rfl rfl (fun hg hp => ?_) (fun hg hp => ?_) | refine r_guard rfl rfl rfl (fun hg => ?_) (fun hg => ?_))) | (refine g_load ?_; (first | (refine p_loadSB hH rfl rfl tO ?_) | (refine p_loadRB hH rfl rfl (by omega) tO ?_) | (refine p_loadS hH rfl tW ?_))) | (refine g_call ?_; (first | (refine k_call (g := 88) Tryz.func88 rfl rfl hH (EvL.cons (EvK.any rfl) (EvL.cons (EvK.any rfl) EvL.nil)) (h88) tTk tRd (fun v H1 w hT hH => ?_); obtain ⟨pg, rfl, rfl⟩ := hT; simp only [List.nil_append, List.cons_append] at hH) | (refine k_call (g := 58) Tryz.func58 rfl rfl hH (EvL.cons (EvK.any rfl) EvL.nil) (c58 _ (by omega)) tTk tRd (fun v H1 w hT hH => ?_); obtain ⟨rfl, rfl⟩ := hT; simp only [List.nil_append, List.cons_append] at hH) | (refine k_call (g := 89) Tryz.func89 rfl rfl hH (EvL.cons (EvK.any rfl) EvL.nil) (c89 _ (by omega)) tTk tRd (fun v H1 w hT hH => ?_); obtain ⟨rfl, rfl⟩ := hT; simp only [List.nil_append, List.cons_append] at hH) | (refine k_call (g := 86) Tryz.func86 rfl rfl hH (EvL.cons (EvK.any rfl) EvL.nil) (c86 _ (by omega)) tTk tRd (fun v H1 w hT hH => ?_); obtain ⟨rfl, rfl⟩ := hT; simp only [List.nil_append, List.cons_append] at hH) | (refine k_call (g := 70) Tryz.func70 rfl rfl hH (EvL.cons (EvK.any rfl) EvL.nil) (c70 _) tTk tRd (fun v H1 w hT hH => ?_); obtain ⟨rfl, rfl⟩ := hT; simp only [List.nil_append, List.cons_append] at hH) | (refine p_appendL hH rfl rfl (Reads1.own (v := .nilIface) (Sel.mem tSel)) rfl rfl rfl tO rfl (fun vb vc w hH => ?_)))) | refine n_buildSlice1 hH tE rfl rfl rfl rfl tN (fun g w hg hH => ?_) | (refine r_toInt Tryz.underlying183 Tryz.underlying3 rfl (wrap_small (by omega)) ?_) | (refine p_toTextS hH rfl rfl tO rfl ?_) | (refine g_store ?_; (first | refine n_store hH rfl tE rfl rfl tN (fun w hH => ?_) | refine n_storeA hH rfl rfl rfl rfl rfl tN (fun w hH => ?_))) | refine n_alloc hH tW (fun g w hg hH => ?_) | (refine g_box ?_; (first | refine p_boxA hH rfl (fun g w hg hH => ?_) | refine p_boxI hH rfl (fun g w hg hH => ?_) | refine p_boxL hH rfl (fun g w hg hH => ?_))) | (refine g_cond ?_; (first | refine c_condD rfl (fun hc hp => ?_) (fun hc hp => ?_) | refine c_cond rfl (fun hc => ?_) (fun hc => ?_))) | refine d_startS (P := Tryz.prog) hH (Sub.keep Sub.nil) (fun hH => ?_) | refine d_start (P := Tryz.prog) hH (fun hH => ?_) | (refine g_any ?_; (first | (apply d_done; exact rfl; kernel_rfl) | (apply d_next; exact rfl; exact rfl; exact rfl; kernel_rfl; (first | (simp only [falses, setB]; exact rfl) | exact rfl); exact hH.sub tSub; (intro w hH; (repeat (first | refine stpO ?_ | (refine g_load ?_; (first | (refine p_loadS hH rfl tW ?_))))); exact r_nil one_end)) | (apply d_split; exact rfl; exact rfl; exact rfl; exact rfl; exact rfl; intro hg; rotate_left; intro hg; rotate_right) | (apply d_all1; exact rfl; kernel_rfl; exact rfl; exact rfl) | (apply d_all2; exact rfl; kernel_rfl; exact rfl; exact rfl; exact rfl; exact rfl) | (apply d_all3; exact rfl; kernel_rfl; exact rfl; exact rfl; exact rfl; exact rfl; exact rfl; exact rfl))) | refine then_end (hH.sub tSub) ?_)
        all_goals first
          | (rw [if_neg (by clear hH; simp_all)]; exact e_end (H1 := [.pt p 100 (parV p s lv fv ev), fldO s fv]) (res1 rfl rfl) hH ⟨rfl, _, rfl⟩ tTk)
          | (rw [if_pos (by clear hH; simp_all)]; exact e_end (H1 := [.pt p 100 (parV p { s with head := { s.head with method := a, target := b, minor := (Hp.versionP c).1 }, st := .field } lv fv ev), fldO s fv]) (res1 rfl rfl) hH ⟨rfl, _, rfl⟩ tTk)
    · have hd3 : decide (((Hp.splitP 32 t).length : Int) ≠ 3) = true := by simp; omega
      have hx : Hp.requestP s t = (s, 80) := by
        rw [hx0]
        split
        · rename_i a b c hL; rw [hL] at h3; exact absurd rfl h3
        · rfl
      rw [hx]
      by_cases ht0 : t = []
      · have hd0 : decide (t = ([] : List UInt8)) = true := by simpa using ht0
        have hd1 : decide ((s.lines : Int) ≤ 4) = false := by simp; have : ¬ s.lines ≤ 4 := fun h => h0 ⟨ht0, h⟩; omega
        refine callsA_of (args := [_, _]) Tryz.func69 rfl Tryz.ntmps69 (by simp) ?_
        intro w0 hH
        repeat' (first | refine stp ?_ | (refine g_guard ?_; (first | refine r_guardD rfl rfl rfl (fun hg hp => ?_) (fun hg hp => ?_) | refine r_guard rfl rfl rfl (fun hg => ?_) (fun hg => ?_))) | (refine g_load ?_; (first | (refine p_loadSB hH rfl rfl tO ?_) | (refine p_loadRB hH rfl rfl (by omega) tO ?_) | (refine p_loadS hH rfl tW ?_))) | (refine g_call ?_; (first | (refine k_call (g := 88) Tryz.func88 rfl rfl hH (EvL.cons (EvK.any rfl) (EvL.cons (EvK.any rfl) EvL.nil)) (c88 G _ ht) tTk tRd (fun v H1 w hT hH => ?_); obtain ⟨pg, rfl, rfl⟩ := hT; simp only [List.nil_append, List.cons_append] at hH) | (refine k_call (g := 58) Tryz.func58 rfl rfl hH (EvL.cons (EvK.any rfl) EvL.nil) (c58 _ (by omega)) tTk tRd (fun v H1 w hT hH => ?_); obtain ⟨rfl, rfl⟩ := hT; simp only [List.nil_append, List.cons_append] at hH) | (refine k_call (g := 89) Tryz.func89 rfl rfl hH (EvL.cons (EvK.any rfl) EvL.nil) (c89 _ (by omega)) tTk tRd (fun v H1 w hT hH => ?_); obtain ⟨rfl, rfl⟩ := hT; simp only [List.nil_append, List.cons_append] at hH) | (refine k_call (g := 86) Tryz.func86 rfl rfl hH (EvL.cons (EvK.any rfl) EvL.nil) (c86 _ (by omega)) tTk tRd (fun v H1 w hT hH => ?_); obtain ⟨rfl, rfl⟩ := hT; simp only [List.nil_append, List.cons_append] at hH) | (refine k_call (g := 70) Tryz.func70 rfl rfl hH (EvL.cons (EvK.any rfl) EvL.nil) (c70 _) tTk tRd (fun v H1 w hT hH => ?_); obtain ⟨rfl, rfl⟩ := hT; simp only [List.nil_append, List.cons_append] at hH) | (refine p_appendL hH rfl rfl (Reads1.own (v := .nilIface) (Sel.mem tSel)) rfl rfl rfl tO rfl (fun vb vc w hH => ?_)))) | refine n_buildSlice1 hH tE rfl rfl rfl rfl tN (fun g w hg hH => ?_) | (refine r_toInt Tryz.underlying183 Tryz.underlying3 rfl (wrap_small (by omega)) ?_) | (refine p_toTextS hH rfl rfl tO rfl ?_) | (refine g_store ?_; (first | refine n_store hH rfl tE rfl rfl tN (fun w hH => ?_) | refine n_storeA hH rfl rfl rfl rfl rfl tN (fun w hH => ?_))) | refine n_alloc hH tW (fun g w hg hH => ?_) | (refine g_box ?_; (first | refine p_boxA hH rfl (fun g w hg hH => ?_) | refine p_boxI hH rfl (fun g w hg hH => ?_) | refine p_boxL hH rfl (fun g w hg hH => ?_))) | (refine g_cond ?_; (first | refine c_condD rfl (fun hc hp => ?_) (fun hc hp => ?_) | refine c_cond rfl (fun hc => ?_) (fun hc => ?_))) | refine d_startS (P := Tryz.prog) hH (Sub.keep Sub.nil) (fun hH => ?_) | refine d_start (P := Tryz.prog) hH (fun hH => ?_) | (refine g_any ?_; (first | (apply d_done; exact rfl; kernel_rfl) | (apply d_next; exact rfl; exact rfl; exact rfl; kernel_rfl; (first | (simp only [falses, setB]; exact rfl) | exact rfl); exact hH.sub tSub; (intro w hH; (repeat (first | refine stpO ?_ | (refine g_load ?_; (first | (refine p_loadS hH rfl tW ?_))))); exact r_nil one_end)) | (apply d_split; exact rfl; exact rfl; exact rfl; exact rfl; exact rfl; intro hg; rotate_left; intro hg; rotate_right) | (apply d_all1; exact rfl; kernel_rfl; exact rfl; exact rfl) | (apply d_all2; exact rfl; kernel_rfl; exact rfl; exact rfl; exact rfl; exact rfl) | (apply d_all3; exact rfl; kernel_rfl; exact rfl; exact rfl; exact rfl; exact rfl; exact rfl; exact rfl))) | refine then_end (hH.sub tSub) ?_)
        all_goals refine e_end (H1 := [.pt p 100 (parV p s lv fv ev), fldO s fv]) (res1 rfl rfl) hH ⟨rfl, _, rfl⟩ tTk
      · have hd0 : decide (t = ([] : List UInt8)) = false := by simpa using ht0
        refine callsA_of (args := [_, _]) Tryz.func69 rfl Tryz.ntmps69 (by simp) ?_
        intro w0 hH
        repeat' (first | refine stp ?_ | (refine g_guard ?_; (first | refine r_guardD rfl rfl rfl (fun hg hp => ?_) (fun hg hp => ?_) | refine r_guard rfl rfl rfl (fun hg => ?_) (fun hg => ?_))) | (refine g_load ?_; (first | (refine p_loadSB hH rfl rfl tO ?_) | (refine p_loadRB hH rfl rfl (by omega) tO ?_) | (refine p_loadS hH rfl tW ?_))) | (refine g_call ?_; (first | (refine k_call (g := 88) Tryz.func88 rfl rfl hH (EvL.cons (EvK.any rfl) (EvL.cons (EvK.any rfl) EvL.nil)) (c88 G _ ht) tTk tRd (fun v H1 w hT hH => ?_); obtain ⟨pg, rfl, rfl⟩ := hT; simp only [List.nil_append, List.cons_append] at hH) | (refine k_call (g := 58) Tryz.func58 rfl rfl hH (EvL.cons (EvK.any rfl) EvL.nil) (c58 _ (by omega)) tTk tRd (fun v H1 w hT hH => ?_); obtain ⟨rfl, rfl⟩ := hT; simp only [List.nil_append, List.cons_append] at hH) | (refine k_call (g := 89) Tryz.func89 rfl rfl hH (EvL.cons (EvK.any rfl) EvL.nil) (c89 _ (by omega)) tTk tRd (fun v H1 w hT hH => ?_); obtain ⟨rfl, rfl⟩ := hT; simp only [List.nil_append, List.cons_append] at hH) | (refine k_call (g := 86) Tryz.func86 rfl rfl hH (EvL.cons (EvK.any rfl) EvL.nil) (c86 _ (by omega)) tTk tRd (fun v H1 w hT hH => ?_); obtain ⟨rfl, rfl⟩ := hT; simp only [List.nil_append, List.cons_append] at hH) | (refine k_call (g := 70) Tryz.func70 rfl rfl hH (EvL.cons (EvK.any rfl) EvL.nil) (c70 _) tTk tRd (fun v H1 w hT hH => ?_); obtain ⟨rfl, rfl⟩ := hT; simp only [List.nil_append, List.cons_append] at hH) | (refine p_appendL hH rfl rfl (Reads1.own (v := .nilIface) (Sel.mem tSel)) rfl rfl rfl tO rfl (fun vb vc w hH => ?_)))) | refine n_buildSlice1 hH tE rfl rfl rfl rfl tN (fun g w hg hH => ?_) | (refine r_toInt Tryz.underlying183 Tryz.underlying3 rfl (wrap_small (by omega)) ?_) | (refine p_toTextS hH rfl rfl tO rfl ?_) | (refine g_store ?_; (first | refine n_store hH rfl tE rfl rfl tN (fun w hH => ?_) | refine n_storeA hH rfl rfl rfl rfl rfl tN (fun w hH => ?_))) | refine n_alloc hH tW (fun g w hg hH => ?_) | (refine g_box ?_; (first | refine p_boxA hH rfl (fun g w hg hH => ?_) | refine p_boxI hH rfl (fun g w hg hH => ?_) | refine p_boxL hH rfl (fun g w hg hH => ?_))) | (refine g_cond ?_; (first | refine c_condD rfl (fun hc hp => ?_) (fun hc hp => ?_) | refine c_cond rfl (fun hc => ?_) (fun hc => ?_))) | refine d_startS (P := Tryz.prog) hH (Sub.keep Sub.nil) (fun hH => ?_) | refine d_start (P := Tryz.prog) hH (fun hH => ?_) | (refine g_any ?_; (first | (apply d_done; exact rfl; kernel_rfl) | (apply d_next; exact rfl; exact rfl; exact rfl; kernel_rfl; (first | (simp only [falses, setB]; exact rfl) | exact rfl); exact hH.sub tSub; (intro w hH; (repeat (first | refine stpO ?_ | (refine g_load ?_; (first | (refine p_loadS hH rfl tW ?_))))); exact r_nil one_end)) | (apply d_split; exact rfl; exact rfl; exact rfl; exact rfl; exact rfl; intro hg; rotate_left; intro hg; rotate_right) | (apply d_all1; exact rfl; kernel_rfl; exact rfl; exact rfl) | (apply d_all2; exact rfl; kernel_rfl; exact rfl; exact rfl; exact rfl; exact rfl) | (apply d_all3; exact rfl; kernel_rfl; exact rfl; exact rfl; exact rfl; exact rfl; exact rfl; exact rfl))) | refine then_end (hH.sub tSub) ?_)
        all_goals refine e_end (H1 := [.pt p 100 (parV p s lv fv ev), fldO s fv]) (res1 rfl rfl) hH ⟨rfl, _, rfl⟩ tTk

end Go.Proofs.YtiofekhdicfmoaaGreatDoor

namespace Go.Proofs.YtiofekhdicfmoaaGreatDoor
open Go Go.Hr
attribute [local irreducible] Go.wpList Go.Code.wp Go.Calls Go.Hr.CallsA Go.wpAnyH Go.callFunc Go.callMethod Go.Instr.typeAssert Go.Sem.run
set_option maxHeartbeats 4000000
set_option linter.all false

theorem value_aca (c : List UInt8) : Hp.valueP ([97] ++ c ++ [97]) = c.all Hp.vcharP := by
  have hv : Hp.vcharP 97 = true := by decide
  have h1 : Hp.trimP ([97] ++ c ++ [97]) = [97] ++ c ++ [97] := by
    have hb : Hp.blankP 97 = false := by decide
    have e1 : ∀ r, Hp.trimL (97 :: r) = 97 :: r := fun r => by simp [Hp.trimL, List.dropWhile, hb]
    simp [Hp.trimP, e1]
  unfold Hp.valueP
  rw [h1]
  simp [hv]
theorem resp_digits (x y z : UInt8) (s : Hp.PS) (a c : List UInt8) :
    (match Hp.status3 [x, y, z] with
      | none => (s, 80)
      | some n => if n < 100 ∨ n > 599 then (s, 80) else ({ s with head := { s.head with status := n, reason := c, minor := (Hp.versionP a).1 }, st := .field }, (Hp.versionP a).2)) =
    if (Hp.digitsP 10 [x, y, z]).2 ≠ 0 ∨ (Hp.digitsP 10 [x, y, z]).1 < 100 ∨ (Hp.digitsP 10 [x, y, z]).1 > 599 then (s, 80) else ({ s with head := { s.head with status := (Hp.digitsP 10 [x, y, z]).1, reason := c, minor := (Hp.versionP a).1 }, st := .field }, (Hp.versionP a).2) := by
  have hd (c : UInt8) : Hp.digitP c = decide (48 ≤ c.toNat ∧ c.toNat ≤ 57) := by
    simp [Hp.digitP, UInt8.le_iff_toNat_le]
  have hm : Hp.maxSize = 9007199254740992 := rfl
  by_cases hx : 48 ≤ x.toNat ∧ x.toNat ≤ 57
  · by_cases hy : 48 ≤ y.toNat ∧ y.toNat ≤ 57
    · by_cases hz : 48 ≤ z.toNat ∧ z.toNat ≤ 57
      · have e1 : Hp.status3 [x, y, z] = some ((x.toNat - 48) * 100 + (y.toNat - 48) * 10 + (z.toNat - 48)) := by simp [Hp.status3, hd, hx, hy, hz]
        have e2 : Hp.digitsP 10 [x, y, z] = ((x.toNat - 48) * 100 + (y.toNat - 48) * 10 + (z.toNat - 48), 0) := by
          have g1 : Hp.digitsGo 10 0 [x, y, z] = some ((x.toNat - 48) * 100 + (y.toNat - 48) * 10 + (z.toNat - 48)) := by
            simp only [Hp.digitsGo, digit10, if_pos hx, if_pos hy, if_pos hz, hm]
            rw [if_neg (show ¬ ((0 : Nat) > 9007199254740992) by omega)]
            rw [if_neg (show ¬ (0 * 10 + (x.toNat - 48) > 9007199254740992) by omega)]
            rw [if_neg (show ¬ ((0 * 10 + (x.toNat - 48)) * 10 + (y.toNat - 48) > 9007199254740992) by omega)]
            congr 1
            omega
          unfold Hp.digitsP
          rw [g1]
          simp only
          rw [if_neg (by simp), if_neg (by rw [hm]; omega)]
        rw [e1, e2]
        simp
      · have e1 : Hp.status3 [x, y, z] = none := by simp [Hp.status3, hd, hz]
        have e2 : Hp.digitsP 10 [x, y, z] = (0, 50) := by
          have g1 : Hp.digitsGo 10 0 [x, y, z] = none := by simp only [Hp.digitsGo, digit10, if_pos hx, if_pos hy, if_neg hz]
          unfold Hp.digitsP; rw [g1]
        rw [e1, e2]; simp
    · have e1 : Hp.status3 [x, y, z] = none := by simp [Hp.status3, hd, hy]
      have e2 : Hp.digitsP 10 [x, y, z] = (0, 50) := by
        have g1 : Hp.digitsGo 10 0 [x, y, z] = none := by simp only [Hp.digitsGo, digit10, if_pos hx, if_neg hy]
        unfold Hp.digitsP; rw [g1]
      rw [e1, e2]; simp
  · have e1 : Hp.status3 [x, y, z] = none := by simp [Hp.status3, hd, hx]
    have e2 : Hp.digitsP 10 [x, y, z] = (0, 50) := by
      have g1 : Hp.digitsGo 10 0 [x, y, z] = none := by simp only [Hp.digitsGo, digit10, if_neg hx]
      unfold Hp.digitsP; rw [g1]
    rw [e1, e2]; simp
attribute [local irreducible] Hp.digitsP Hp.valueP Hp.versionP
theorem c68 (G : Glob) (p : Nat) (s : Hp.PS) (lv fv ev : Value) (t : List UInt8) (ht : t.length ≤ 1048576) :
    CallsA Tryz.prog 68 (List.toArray [.pointer (some ⟨p, 0, none⟩), .string ⟨t.toArray⟩]) (GL G) [.pt p 100 (parV p s lv fv ev), fldO s fv] (StT p s lv ev (Hp.responseP s t)) := by
  have h83 := c83 G t ht
  unfold cut3 at h83
  cases h1 : Hp.cutP 32 t with
  | none =>
    rw [h1] at h83
    simp only at h83
    have hx : Hp.responseP s t = (s, 80) := by unfold Hp.responseP; rw [h1]
    rw [hx]
    refine callsA_of (args := [_, _]) Tryz.func68 rfl Tryz.ntmps68 (by simp) ?_
    intro w0 hH
    repeat' (first | refine stp ?_ | (refine g_guard ?_; (first | refine r_guardD rfl rfl rfl (fun hg hp => ?_) (fun hg hp => ?_) | refine r_guard rfl rfl rfl (fun hg => ?_) (fun hg => ?_))) | (refine g_load ?_; (first | (refine p_loadSB hH rfl rfl tO ?_) | (refine p_loadRB hH rfl rfl (by omega) tO ?_) | (refine p_loadS hH rfl tW ?_))) | (refine g_call ?_; (first | (refine k_call (g := 83) Tryz.func83 rfl rfl hH (EvL.cons (EvK.any rfl) (EvL.cons (EvK.any rfl) (EvL.cons (EvK.any rfl) EvL.nil))) (h83) tTk tRd (fun v H1 w hT hH => ?_); obtain ⟨pg, pn, hpn, rfl, rfl⟩ := hT; simp only [List.nil_append, List.cons_append] at hH) | (refine k_call (g := 84) Tryz.func84 rfl rfl hH (EvL.cons (EvK.any rfl) EvL.nil) (c84 _ (by simp only [List.length_append, List.length_cons, List.length_nil]; omega)) tTk tRd (fun v H1 w hT hH => ?_); obtain ⟨rfl, rfl⟩ := hT; simp only [List.nil_append, List.cons_append] at hH) | (refine k_call (g := 85) Tryz.func85 rfl rfl hH (EvL.cons (EvK.any rfl) EvL.nil) (c85 G _ (by omega)) tTk tRd (fun v H1 w hT hH => ?_); obtain ⟨rfl, rfl⟩ := hT; simp only [List.nil_append, List.cons_append] at hH) | (refine k_call (g := 86) Tryz.func86 rfl rfl hH (EvL.cons (EvK.any rfl) EvL.nil) (c86 _ (by omega)) tTk tRd (fun v H1 w hT hH => ?_); obtain ⟨rfl, rfl⟩ := hT; simp only [List.nil_append, List.cons_append] at hH) | (refine k_call (g := 70) Tryz.func70 rfl rfl hH (EvL.cons (EvK.any rfl) EvL.nil) (c70 _) tTk tRd (fun v H1 w hT hH => ?_); obtain ⟨rfl, rfl⟩ := hT; simp only [List.nil_append, List.cons_append] at hH) | (refine p_appendL hH rfl rfl (Reads1.own (v := .nilIface) (Sel.mem tSel)) rfl rfl rfl tO rfl (fun vb vc w hH => ?_)))) | refine n_buildSlice1 hH tE rfl rfl rfl rfl tN (fun g w hg hH => ?_) | (refine r_toInt Tryz.underlying183 Tryz.underlying3 rfl (wrap_small (by omega)) ?_) | (refine p_toTextS hH rfl rfl tO rfl ?_) | (refine g_store ?_; (first | refine n_store hH rfl tE rfl rfl tN (fun w hH => ?_) | refine n_storeA hH rfl rfl rfl rfl rfl tN (fun w hH => ?_))) | refine n_alloc hH tW (fun g w hg hH => ?_) | (refine g_box ?_; (first | refine p_boxA hH rfl (fun g w hg hH => ?_) | refine p_boxI hH rfl (fun g w hg hH => ?_) | refine p_boxL hH rfl (fun g w hg hH => ?_))) | (refine g_cond ?_; (first | refine c_condD rfl (fun hc hp => ?_) (fun hc hp => ?_) | refine c_cond rfl (fun hc => ?_) (fun hc => ?_))) | refine d_startS (P := Tryz.prog) hH (Sub.keep Sub.nil) (fun hH => ?_) | refine d_start (P := Tryz.prog) hH (fun hH => ?_) | (refine g_any ?_; (first | (apply d_done; exact rfl; kernel_rfl) | (apply d_next; exact rfl; exact rfl; exact rfl; kernel_rfl; (first | (simp only [falses, setB]; exact rfl) | exact rfl); exact hH.sub tSub; (intro w hH; (repeat (first | refine stpO ?_ | (refine g_load ?_; (first | (refine p_loadS hH rfl tW ?_))))); exact r_nil one_end)) | (apply d_split; exact rfl; exact rfl; exact rfl; exact rfl; exact rfl; intro hg; rotate_left; intro hg; rotate_right) | (apply d_all1; exact rfl; kernel_rfl; exact rfl; exact rfl) | (apply d_all2; exact rfl; kernel_rfl; exact rfl; exact rfl; exact rfl; exact rfl) | (apply d_all3; exact rfl; kernel_rfl; exact rfl; exact rfl; exact rfl; exact rfl; exact rfl; exact rfl))) | refine then_end (hH.sub tSub) ?_)
    all_goals refine e_end (H1 := [.pt p 100 (parV p s lv fv ev), fldO s fv]) (res1 rfl rfl) hH ⟨rfl, _, rfl⟩ tTk
  | some q =>
    obtain ⟨a, r⟩ := q
    have hr := Hp.cut_some h1
    have hl1 : a.length + 1 + r.length = t.length := by rw [hr.1]; simp; omega
    rw [h1] at h83
    simp only at h83
    cases h2 : Hp.cutP 32 r with
    | none =>
      rw [h2] at h83
      simp only at h83
      have hx : Hp.responseP s t = (s, 80) := by unfold Hp.responseP; rw [h1]; simp only; rw [h2]
      rw [hx]
      refine callsA_of (args := [_, _]) Tryz.func68 rfl Tryz.ntmps68 (by simp) ?_
      intro w0 hH
      repeat' (first | refine stp ?_ | (refine g_guard ?_; (first | refine r_guardD rfl rfl rfl (fun hg hp => ?_) (fun hg hp => ?_) | refine r_guard rfl rfl rfl (fun hg => ?_) (fun hg => ?_))) | (refine g_load ?_; (first | (refine p_loadSB hH rfl rfl tO ?_) | (refine p_loadRB hH rfl rfl (by omega) tO ?_) | (refine p_loadS hH rfl tW ?_))) | (refine g_call ?_; (first | (refine k_call (g := 83) Tryz.func83 rfl rfl hH (EvL.cons (EvK.any rfl) (EvL.cons (EvK.any rfl) (EvL.cons (EvK.any rfl) EvL.nil))) (h83) tTk tRd (fun v H1 w hT hH => ?_); obtain ⟨pg, pn, hpn, rfl, rfl⟩ := hT; simp only [List.nil_append, List.cons_append] at hH) | (refine k_call (g := 84) Tryz.func84 rfl rfl hH (EvL.cons (EvK.any rfl) EvL.nil) (c84 _ (by simp only [List.length_append, List.length_cons, List.length_nil]; omega)) tTk tRd (fun v H1 w hT hH => ?_); obtain ⟨rfl, rfl⟩ := hT; simp only [List.nil_append, List.cons_append] at hH) | (refine k_call (g := 85) Tryz.func85 rfl rfl hH (EvL.cons (EvK.any rfl) EvL.nil) (c85 G _ (by omega)) tTk tRd (fun v H1 w hT hH => ?_); obtain ⟨rfl, rfl⟩ := hT; simp only [List.nil_append, List.cons_append] at hH) | (refine k_call (g := 86) Tryz.func86 rfl rfl hH (EvL.cons (EvK.any rfl) EvL.nil) (c86 _ (by omega)) tTk tRd (fun v H1 w hT hH => ?_); obtain ⟨rfl, rfl⟩ := hT; simp only [List.nil_append, List.cons_append] at hH) | (refine k_call (g := 70) Tryz.func70 rfl rfl hH (EvL.cons (EvK.any rfl) EvL.nil) (c70 _) tTk tRd (fun v H1 w hT hH => ?_); obtain ⟨rfl, rfl⟩ := hT; simp only [List.nil_append, List.cons_append] at hH) | (refine p_appendL hH rfl rfl (Reads1.own (v := .nilIface) (Sel.mem tSel)) rfl rfl rfl tO rfl (fun vb vc w hH => ?_)))) | refine n_buildSlice1 hH tE rfl rfl rfl rfl tN (fun g w hg hH => ?_) | (refine r_toInt Tryz.underlying183 Tryz.underlying3 rfl (wrap_small (by omega)) ?_) | (refine p_toTextS hH rfl rfl tO rfl ?_) | (refine g_store ?_; (first | refine n_store hH rfl tE rfl rfl tN (fun w hH => ?_) | refine n_storeA hH rfl rfl rfl rfl rfl tN (fun w hH => ?_))) | refine n_alloc hH tW (fun g w hg hH => ?_) | (refine g_box ?_; (first | refine p_boxA hH rfl (fun g w hg hH => ?_) | refine p_boxI hH rfl (fun g w hg hH => ?_) | refine p_boxL hH rfl (fun g w hg hH => ?_))) | (refine g_cond ?_; (first | refine c_condD rfl (fun hc hp => ?_) (fun hc hp => ?_) | refine c_cond rfl (fun hc => ?_) (fun hc => ?_))) | refine d_startS (P := Tryz.prog) hH (Sub.keep Sub.nil) (fun hH => ?_) | refine d_start (P := Tryz.prog) hH (fun hH => ?_) | (refine g_any ?_; (first | (apply d_done; exact rfl; kernel_rfl) | (apply d_next; exact rfl; exact rfl; exact rfl; kernel_rfl; (first | (simp only [falses, setB]; exact rfl) | exact rfl); exact hH.sub tSub; (intro w hH; (repeat (first | refine stpO ?_ | (refine g_load ?_; (first | (refine p_loadS hH rfl tW ?_))))); exact r_nil one_end)) | (apply d_split; exact rfl; exact rfl; exact rfl; exact rfl; exact rfl; intro hg; rotate_left; intro hg; rotate_right) | (apply d_all1; exact rfl; kernel_rfl; exact rfl; exact rfl) | (apply d_all2; exact rfl; kernel_rfl; exact rfl; exact rfl; exact rfl; exact rfl) | (apply d_all3; exact rfl; kernel_rfl; exact rfl; exact rfl; exact rfl; exact rfl; exact rfl; exact rfl))) | refine then_end (hH.sub tSub) ?_)
      all_goals refine e_end (H1 := [.pt p 100 (parV p s lv fv ev), fldO s fv]) (res1 rfl rfl) hH ⟨rfl, _, rfl⟩ tTk
    | some q =>
      obtain ⟨b, c⟩ := q
      have hr2 := Hp.cut_some h2
      have hl2 : b.length + 1 + c.length = r.length := by rw [hr2.1]; simp; omega
      rw [h2] at h83
      simp only at h83
      by_cases hb : b.length = 3
      · have hb1 : decide ((b.length : Int) ≠ 3) = false := by simp; omega
        obtain ⟨x, y, z, rfl⟩ : ∃ x y z, b = [x, y, z] := by
          match b, hb with
          | [x, y, z], _ => exact ⟨x, y, z, rfl⟩
        have hva := value_aca c
        by_cases hcv : c.all Hp.vcharP = true
        · have hx : Hp.responseP s t = if (Hp.digitsP 10 [x, y, z]).2 ≠ 0 ∨ (Hp.digitsP 10 [x, y, z]).1 < 100 ∨ (Hp.digitsP 10 [x, y, z]).1 > 599 then (s, 80) else ({ s with head := { s.head with status := (Hp.digitsP 10 [x, y, z]).1, reason := c, minor := (Hp.versionP a).1 }, st := .field }, (Hp.versionP a).2) := by
            rw [← resp_digits]
            unfold Hp.responseP
            rw [h1]; simp only; rw [h2]; simp only
            rw [if_neg (by simp [hcv])]
            rfl
          rw [hx]
          rw [hcv] at hva
          have hvb : (!Hp.valueP ([97] ++ c ++ [97])) = false := by rw [hva]; rfl
          refine callsA_of (args := [_, _]) Tryz.func68 rfl Tryz.ntmps68 (by simp) ?_
          intro w0 hH
          repeat' (first | refine stp ?_ | (refine g_guard ?_; (first | refine r_guardD rfl rfl rfl (fun hg hp => ?_) (fun hg hp => ?_) | refine r_guard rfl rfl rfl (fun hg => ?_) (fun hg => ?_))) | (refine g_load ?_; (first | (refine p_loadSB hH rfl rfl tO ?_) | (refine p_loadRB hH rfl rfl (by omega) tO ?_) | (refine p_loadS hH rfl tW ?_))) | (refine g_call ?_; (first | (refine k_call (g := 83) Tryz.func83 rfl rfl hH (EvL.cons (EvK.any rfl) (EvL.cons (EvK.any rfl) (EvL.cons (EvK.any rfl) EvL.nil))) (h83) tTk tRd (fun v H1 w hT hH => ?_); obtain ⟨pg, pn, hpn, rfl, rfl⟩ := hT; simp only [List.nil_append, List.cons_append] at hH) | (refine k_call (g := 84) Tryz.func84 rfl rfl hH (EvL.cons (EvK.any rfl) EvL.nil) (c84 _ (by simp only [List.length_append, List.length_cons, List.length_nil]; omega)) tTk tRd (fun v H1 w hT hH => ?_); obtain ⟨rfl, rfl⟩ := hT; simp only [List.nil_append, List.cons_append] at hH) | (refine k_call (g := 85) Tryz.func85 rfl rfl hH (EvL.cons (EvK.any rfl) EvL.nil) (c85 G _ (by omega)) tTk tRd (fun v H1 w hT hH => ?_); obtain ⟨rfl, rfl⟩ := hT; simp only [List.nil_append, List.cons_append] at hH) | (refine k_call (g := 86) Tryz.func86 rfl rfl hH (EvL.cons (EvK.any rfl) EvL.nil) (c86 _ (by omega)) tTk tRd (fun v H1 w hT hH => ?_); obtain ⟨rfl, rfl⟩ := hT; simp only [List.nil_append, List.cons_append] at hH) | (refine k_call (g := 70) Tryz.func70 rfl rfl hH (EvL.cons (EvK.any rfl) EvL.nil) (c70 _) tTk tRd (fun v H1 w hT hH => ?_); obtain ⟨rfl, rfl⟩ := hT; simp only [List.nil_append, List.cons_append] at hH) | (refine p_appendL hH rfl rfl (Reads1.own (v := .nilIface) (Sel.mem tSel)) rfl rfl rfl tO rfl (fun vb vc w hH => ?_)))) | refine n_buildSlice1 hH tE rfl rfl rfl rfl tN (fun g w hg hH => ?_) | (refine r_toInt Tryz.underlying183 Tryz.underlying3 rfl (wrap_small (by omega)) ?_) | (refine p_toTextS hH rfl rfl tO rfl ?_) | (refine g_store ?_; (first | refine n_store hH rfl tE rfl rfl tN (fun w hH => ?_) | refine n_storeA hH rfl rfl rfl rfl rfl tN (fun w hH => ?_))) | refine n_alloc hH tW (fun g w hg hH => ?_) | (refine g_box ?_; (first | refine p_boxA hH rfl (fun g w hg hH => ?_) | refine p_boxI hH rfl (fun g w hg hH => ?_) | refine p_boxL hH rfl (fun g w hg hH => ?_))) | (refine g_cond ?_; (first | refine c_condD rfl (fun hc hp => ?_) (fun hc hp => ?_) | refine c_cond rfl (fun hc => ?_) (fun hc => ?_))) | refine d_startS (P := Tryz.prog) hH (Sub.keep Sub.nil) (fun hH => ?_) | refine d_start (P := Tryz.prog) hH (fun hH => ?_) | (refine g_any ?_; (first | (apply d_done; exact rfl; kernel_rfl) | (apply d_next; exact rfl; exact rfl; exact rfl; kernel_rfl; (first | (simp only [falses, setB]; exact rfl) | exact rfl); exact hH.sub tSub; (intro w hH; (repeat (first | refine stpO ?_ | (refine g_load ?_; (first | (refine p_loadS hH rfl tW ?_))))); exact r_nil one_end)) | (apply d_split; exact rfl; exact rfl; exact rfl; exact rfl; exact rfl; intro hg; rotate_left; intro hg; rotate_right) | (apply d_all1; exact rfl; kernel_rfl; exact rfl; exact rfl) | (apply d_all2; exact rfl; kernel_rfl; exact rfl; exact rfl; exact rfl; exact rfl) | (apply d_all3; exact rfl; kernel_rfl; exact rfl; exact rfl; exact rfl; exact rfl; exact rfl; exact rfl))) | refine then_end (hH.sub tSub) ?_)
          all_goals first
            | (rw [if_neg (by clear hH; omega)]; exact e_end (H1 := [.pt p 100 (parV p { s with head := { s.head with status := (Hp.digitsP 10 [x, y, z]).1, reason := c, minor := (Hp.versionP a).1 }, st := .field } lv fv ev), fldO s fv]) (res1 rfl rfl) hH ⟨rfl, _, rfl⟩ tTk)
            | (rw [if_pos (by clear hH; omega)]; exact e_end (H1 := [.pt p 100 (parV p s lv fv ev), fldO s fv]) (res1 rfl rfl) hH ⟨rfl, _, rfl⟩ tTk)
            | skip
        · have hx : Hp.responseP s t = (s, 80) := by
            unfold Hp.responseP
            rw [h1]; simp only; rw [h2]; simp only
            rw [if_pos (.inr (by simpa using hcv))]
          rw [hx]
          have hcv' : c.all Hp.vcharP = false := by simpa using hcv
          rw [hcv'] at hva
          have hvb : (!Hp.valueP ([97] ++ c ++ [97])) = true := by rw [hva]; rfl
          refine callsA_of (args := [_, _]) Tryz.func68 rfl Tryz.ntmps68 (by simp) ?_
          intro w0 hH
          repeat' (first | refine stp ?_ | (refine g_guard ?_; (first | refine r_guardD rfl rfl rfl (fun hg hp => ?_) (fun hg hp => ?_) | refine r_guard rfl rfl rfl (fun hg => ?_) (fun hg => ?_))) | (refine g_load ?_; (first | (refine p_loadSB hH rfl rfl tO ?_) | (refine p_loadRB hH rfl rfl (by omega) tO ?_) | (refine p_loadS hH rfl tW ?_))) | (refine g_call ?_; (first | (refine k_call (g := 83) Tryz.func83 rfl rfl hH (EvL.cons (EvK.any rfl) (EvL.cons (EvK.any rfl) (EvL.cons (EvK.any rfl) EvL.nil))) (h83) tTk tRd (fun v H1 w hT hH => ?_); obtain ⟨pg, pn, hpn, rfl, rfl⟩ := hT; simp only [List.nil_append, List.cons_append] at hH) | (refine k_call (g := 84) Tryz.func84 rfl rfl hH (EvL.cons (EvK.any rfl) EvL.nil) (c84 _ (by simp only [List.length_append, List.length_cons, List.length_nil]; omega)) tTk tRd (fun v H1 w hT hH => ?_); obtain ⟨rfl, rfl⟩ := hT; simp only [List.nil_append, List.cons_append] at hH) | (refine k_call (g := 85) Tryz.func85 rfl rfl hH (EvL.cons (EvK.any rfl) EvL.nil) (c85 G _ (by omega)) tTk tRd (fun v H1 w hT hH => ?_); obtain ⟨rfl, rfl⟩ := hT; simp only [List.nil_append, List.cons_append] at hH) | (refine k_call (g := 86) Tryz.func86 rfl rfl hH (EvL.cons (EvK.any rfl) EvL.nil) (c86 _ (by omega)) tTk tRd (fun v H1 w hT hH => ?_); obtain ⟨rfl, rfl⟩ := hT; simp only [List.nil_append, List.cons_append] at hH) | (refine k_call (g := 70) Tryz.func70 rfl rfl hH (EvL.cons (EvK.any rfl) EvL.nil) (c70 _) tTk tRd (fun v H1 w hT hH => ?_); obtain ⟨rfl, rfl⟩ := hT; simp only [List.nil_append, List.cons_append] at hH) | (refine p_appendL hH rfl rfl (Reads1.own (v := .nilIface) (Sel.mem tSel)) rfl rfl rfl tO rfl (fun vb vc w hH => ?_)))) | refine n_buildSlice1 hH tE rfl rfl rfl rfl tN (fun g w hg hH => ?_) | (refine r_toInt Tryz.underlying183 Tryz.underlying3 rfl (wrap_small (by omega)) ?_) | (refine p_toTextS hH rfl rfl tO rfl ?_) | (refine g_store ?_; (first | refine n_store hH rfl tE rfl rfl tN (fun w hH => ?_) | refine n_storeA hH rfl rfl rfl rfl rfl tN (fun w hH => ?_))) | refine n_alloc hH tW (fun g w hg hH => ?_) | (refine g_box ?_; (first | refine p_boxA hH rfl (fun g w hg hH => ?_) | refine p_boxI hH rfl (fun g w hg hH => ?_) | refine p_boxL hH rfl (fun g w hg hH => ?_))) | (refine g_cond ?_; (first | refine c_condD rfl (fun hc hp => ?_) (fun hc hp => ?_) | refine c_cond rfl (fun hc => ?_) (fun hc => ?_))) | refine d_startS (P := Tryz.prog) hH (Sub.keep Sub.nil) (fun hH => ?_) | refine d_start (P := Tryz.prog) hH (fun hH => ?_) | (refine g_any ?_; (first | (apply d_done; exact rfl; kernel_rfl) | (apply d_next; exact rfl; exact rfl; exact rfl; kernel_rfl; (first | (simp only [falses, setB]; exact rfl) | exact rfl); exact hH.sub tSub; (intro w hH; (repeat (first | refine stpO ?_ | (refine g_load ?_; (first | (refine p_loadS hH rfl tW ?_))))); exact r_nil one_end)) | (apply d_split; exact rfl; exact rfl; exact rfl; exact rfl; exact rfl; intro hg; rotate_left; intro hg; rotate_right) | (apply d_all1; exact rfl; kernel_rfl; exact rfl; exact rfl) | (apply d_all2; exact rfl; kernel_rfl; exact rfl; exact rfl; exact rfl; exact rfl) | (apply d_all3; exact rfl; kernel_rfl; exact rfl; exact rfl; exact rfl; exact rfl; exact rfl; exact rfl))) | refine then_end (hH.sub tSub) ?_)
          all_goals refine e_end (H1 := [.pt p 100 (parV p s lv fv ev), fldO s fv]) (res1 rfl rfl) hH ⟨rfl, _, rfl⟩ tTk
      · have hb1 : decide ((b.length : Int) ≠ 3) = true := by simp; omega
        have hx : Hp.responseP s t = (s, 80) := by
          unfold Hp.responseP
          rw [h1]; simp only; rw [h2]; simp only
          rw [if_pos (.inl hb)]
        rw [hx]
        refine callsA_of (args := [_, _]) Tryz.func68 rfl Tryz.ntmps68 (by simp) ?_
        intro w0 hH
        repeat' (first | refine stp ?_ | (refine g_guard ?_; (first | refine r_guardD rfl rfl rfl (fun hg hp => ?_) (fun hg hp => ?_) | refine r_guard rfl rfl rfl (fun hg => ?_) (fun hg => ?_))) | (refine g_load ?_; (first | (refine p_loadSB hH rfl rfl tO ?_) | (refine p_loadRB hH rfl rfl (by omega) tO ?_) | (refine p_loadS hH rfl tW ?_))) | (refine g_call ?_; (first | (refine k_call (g := 83) Tryz.func83 rfl rfl hH (EvL.cons (EvK.any rfl) (EvL.cons (EvK.any rfl) (EvL.cons (EvK.any rfl) EvL.nil))) (h83) tTk tRd (fun v H1 w hT hH => ?_); obtain ⟨pg, pn, hpn, rfl, rfl⟩ := hT; simp only [List.nil_append, List.cons_append] at hH) | (refine k_call (g := 84) Tryz.func84 rfl rfl hH (EvL.cons (EvK.any rfl) EvL.nil) (c84 _ (by simp only [List.length_append, List.length_cons, List.length_nil]; omega)) tTk tRd (fun v H1 w hT hH => ?_); obtain ⟨rfl, rfl⟩ := hT; simp only [List.nil_append, List.cons_append] at hH) | (refine k_call (g := 85) Tryz.func85 rfl rfl hH (EvL.cons (EvK.any rfl) EvL.nil) (c85 G _ (by omega)) tTk tRd (fun v H1 w hT hH => ?_); obtain ⟨rfl, rfl⟩ := hT; simp only [List.nil_append, List.cons_append] at hH) | (refine k_call (g := 86) Tryz.func86 rfl rfl hH (EvL.cons (EvK.any rfl) EvL.nil) (c86 _ (by omega)) tTk tRd (fun v H1 w hT hH => ?_); obtain ⟨rfl, rfl⟩ := hT; simp only [List.nil_append, List.cons_append] at hH) | (refine k_call (g := 70) Tryz.func70 rfl rfl hH (EvL.cons (EvK.any rfl) EvL.nil) (c70 _) tTk tRd (fun v H1 w hT hH => ?_); obtain ⟨rfl, rfl⟩ := hT; simp only [List.nil_append, List.cons_append] at hH) | (refine p_appendL hH rfl rfl (Reads1.own (v := .nilIface) (Sel.mem tSel)) rfl rfl rfl tO rfl (fun vb vc w hH => ?_)))) | refine n_buildSlice1 hH tE rfl rfl rfl rfl tN (fun g w hg hH => ?_) | (refine r_toInt Tryz.underlying183 Tryz.underlying3 rfl (wrap_small (by omega)) ?_) | (refine p_toTextS hH rfl rfl tO rfl ?_) | (refine g_store ?_; (first | refine n_store hH rfl tE rfl rfl tN (fun w hH => ?_) | refine n_storeA hH rfl rfl rfl rfl rfl tN (fun w hH => ?_))) | refine n_alloc hH tW (fun g w hg hH => ?_) | (refine g_box ?_; (first | refine p_boxA hH rfl (fun g w hg hH => ?_) | refine p_boxI hH rfl (fun g w hg hH => ?_) | refine p_boxL hH rfl (fun g w hg hH => ?_))) | (refine g_cond ?_; (first | refine c_condD rfl (fun hc hp => ?_) (fun hc hp => ?_) | refine c_cond rfl (fun hc => ?_) (fun hc => ?_))) | refine d_startS (P := Tryz.prog) hH (Sub.keep Sub.nil) (fun hH => ?_) | refine d_start (P := Tryz.prog) hH (fun hH => ?_) | (refine g_any ?_; (first | (apply d_done; exact rfl; kernel_rfl) | (apply d_next; exact rfl; exact rfl; exact rfl; kernel_rfl; (first | (simp only [falses, setB]; exact rfl) | exact rfl); exact hH.sub tSub; (intro w hH; (repeat (first | refine stpO ?_ | (refine g_load ?_; (first | (refine p_loadS hH rfl tW ?_))))); exact r_nil one_end)) | (apply d_split; exact rfl; exact rfl; exact rfl; exact rfl; exact rfl; intro hg; rotate_left; intro hg; rotate_right) | (apply d_all1; exact rfl; kernel_rfl; exact rfl; exact rfl) | (apply d_all2; exact rfl; kernel_rfl; exact rfl; exact rfl; exact rfl; exact rfl) | (apply d_all3; exact rfl; kernel_rfl; exact rfl; exact rfl; exact rfl; exact rfl; exact rfl; exact rfl))) | refine then_end (hH.sub tSub) ?_)
        all_goals refine e_end (H1 := [.pt p 100 (parV p s lv fv ev), fldO s fv]) (res1 rfl rfl) hH ⟨rfl, _, rfl⟩ tTk

end Go.Proofs.YtiofekhdicfmoaaGreatDoor

namespace Go.Proofs.YtiofekhdicfmoaaGreatDoor
open Go Go.Hr
attribute [local irreducible] Go.wpList Go.Code.wp Go.Calls Go.Hr.CallsA Go.wpAnyH Go.callFunc Go.callMethod Go.Instr.typeAssert Go.Sem.run
set_option maxHeartbeats 4000000
set_option linter.all false

abbrev lineO (s : Hp.PS) (lv : Value) : Own := .sl lv 5 1 s.line.length (bytesV s.line)
abbrev TkT (p : Nat) (ev : Value) (r : Hp.PS × Option Hp.ErrP) (v : Value) (H' : List Own) : Prop :=
  v = errP r.2 ∧ ∃ lv' fv', H' = [.pt p 100 (parV p r.1 lv' fv' ev), lineO r.1 lv', fldO r.1 fv']
structure Fit (s : Hp.PS) : Prop where
  most : s.most ≤ 65536
  read : s.read ≤ s.most
  lines : s.lines ≤ s.read
  line : s.line.length ≤ s.read
  fields : s.head.fields.length ≤ 100
theorem after_eq (l : List UInt8) (h : l ≠ []) : Hp.afterP l = decide (((l.getD (((l.length : Int) - 1).toNat * 1) 0).toNat : Int) = 13) := by
  obtain ⟨r, c, rfl⟩ : ∃ r c, l = r ++ [c] := ⟨l.dropLast, l.getLast h, (List.dropLast_concat_getLast h).symm⟩
  have e : (((r ++ [c]).length : Int) - 1).toNat * 1 = r.length := by simp
  rw [e, Bool.eq_iff_iff]
  simp [Hp.afterP, ← UInt8.toNat_inj]
  omega
theorem take_81 {s : Hp.PS} {c : UInt8} (h : ((c == 10) != Hp.afterP s.line) = true) : Hp.takeP s c = (s, some ⟨none, 81⟩) := by
  unfold Hp.takeP; rw [if_pos h]
theorem take_ne {s : Hp.PS} {c : UInt8} (hc : (c == 10) = false) (h : Hp.afterP s.line = false) : Hp.takeP s c = if s.read + 1 > s.most ∨ Hp.grownP c s.line.length > 8192 then ({ s with read := s.read + 1 }, some ⟨none, 85⟩) else ({ s with read := s.read + 1, line := s.line ++ [c] }, none) := by
  have hne : (c != 10) = true := by simp [bne, hc]
  unfold Hp.takeP
  rw [if_neg (by rw [hc, h]; decide)]
  simp only [h, hne, if_true, true_and]
theorem take_eq {s : Hp.PS} {c : UInt8} (hc : (c == 10) = true) (h : Hp.afterP s.line = true) : Hp.takeP s c = if s.read + 1 > s.most then ({ s with read := s.read + 1 }, some ⟨none, 85⟩) else
    ((Hp.stateP { s with read := s.read + 1, line := [], lines := s.lines + 1 } s.line.dropLast).1, if (Hp.stateP { s with read := s.read + 1, line := [], lines := s.lines + 1 } s.line.dropLast).2 = 0 then none else some ⟨some (Hp.stateP { s with read := s.read + 1, line := [], lines := s.lines + 1 } s.line.dropLast).1.lines, (Hp.stateP { s with read := s.read + 1, line := [], lines := s.lines + 1 } s.line.dropLast).2⟩) := by
  have hne : (c != 10) = false := by simp [bne, hc]
  unfold Hp.takeP
  rw [if_neg (by rw [hc, h]; decide)]
  simp only [h, hne, Bool.true_eq_false, false_and, or_false, Bool.false_eq_true, if_false]
theorem c10_eq (c : UInt8) : (c == 10) = decide ((c.toNat : Int) = 10) := by
  rw [Bool.eq_iff_iff]; simp [← UInt8.toNat_inj]; omega
theorem grown_eq {c : UInt8} (n : Nat) (h10 : ¬ (c.toNat : Int) = 10) : Hp.grownP c n = if (c.toNat : Int) = 13 then n else n + 1 := by
  have e1 : (c != 10) = true := by simp [bne, c10_eq, h10]
  have e2 : (c != 13) = !decide ((c.toNat : Int) = 13) := by
    rw [Bool.eq_iff_iff]; simp [← UInt8.toNat_inj]; omega
  unfold Hp.grownP
  rw [e1, e2]
  by_cases h : (c.toNat : Int) = 13 <;> simp [h]
set_option maxRecDepth 8000 in
theorem c52ne (G : Glob) (p : Nat) (s : Hp.PS) (lg lc : Nat) (fv ev : Value) (c : UInt8) (hs : Fit s) (hl : s.line ≠ []) (h10 : ¬ (c.toNat : Int) = 10) :
    CallsA Tryz.prog 52 (List.toArray [.pointer (some ⟨p, 0, none⟩), .int .u8 (c.toNat : Int)]) (GL G) [.pt p 100 (parV p s (.slice (some ⟨lg, 0, none⟩) s.line.length lc) fv ev), lineO s (.slice (some ⟨lg, 0, none⟩) s.line.length lc), fldO s fv] (TkT p ev (Hp.takeP s c)) := by
  have haf := after_eq s.line hl
  have hlen : 0 < s.line.length := List.length_pos_iff.2 hl
  obtain ⟨h1, h2, h3, h4, h5⟩ := hs
  have g0 : decide ((0 : Int) < (s.line.length : Int)) = true := by simp; omega
  have g1 : decide ((c.toNat : Int) = 10) = false := by simpa using h10
  have g2 : decide ((c.toNat : Int) ≠ 10) = true := by simpa using h10
  have gc : (c == 10) = false := by rw [c10_eq, g1]
  by_cases hA : decide (((s.line.getD (((s.line.length : Int) - 1).toNat * 1) 0).toNat : Int) = 13) = true
  · have hB : (!(decide ((c.toNat : Int) = 10) == decide (((s.line.getD (((s.line.length : Int) - 1).toNat * 1) 0).toNat : Int) = 13))) = true := by rw [g1, hA]; rfl
    rw [take_81 (by rw [gc, haf, hA]; rfl)]
    refine callsA_of (args := [_, _]) Tryz.func52 rfl Tryz.ntmps52 (by simp) ?_
    intro w0 hH
    repeat' (first | refine stp ?_ | (refine g_guard ?_; (first | refine r_guardD rfl rfl rfl (fun hg hp => ?_) (fun hg hp => ?_) | refine r_guard rfl rfl rfl (fun hg => ?_) (fun hg => ?_))) | (refine g_load ?_; (first | (refine p_loadSB hH rfl rfl tO ?_) | (refine p_loadRB hH rfl rfl (by omega) tO ?_) | (refine p_loadS hH rfl tW ?_))) | (refine g_call ?_; (first | (refine k_call (g := 70) Tryz.func70 rfl rfl hH (EvL.cons (EvK.any rfl) EvL.nil) (c70 _) tTk tRd (fun v H1 w hT hH => ?_); obtain ⟨rfl, rfl⟩ := hT; simp only [List.nil_append, List.cons_append] at hH) | (refine p_appendL hH rfl rfl (Reads1.own (v := .nilIface) (Sel.mem tSel)) rfl rfl rfl tO rfl (fun vb vc w hH => ?_)))) | refine n_buildSlice1 hH tE rfl rfl rfl rfl tN (fun g w hg hH => ?_) | (refine r_toInt Tryz.underlying183 Tryz.underlying3 rfl (wrap_small (by omega)) ?_) | (refine p_toTextS hH rfl rfl tO rfl ?_) | (refine g_store ?_; (first | refine n_store hH rfl tE rfl rfl tN (fun w hH => ?_) | refine n_storeA hH rfl rfl rfl rfl rfl tN (fun w hH => ?_))) | refine n_alloc hH tW (fun g w hg hH => ?_) | (refine g_box ?_; (first | refine p_boxA hH rfl (fun g w hg hH => ?_) | refine p_boxI hH rfl (fun g w hg hH => ?_) | refine p_boxL hH rfl (fun g w hg hH => ?_))) | (refine g_cond ?_; (first | refine c_condD rfl (fun hc hp => ?_) (fun hc hp => ?_) | refine c_cond rfl (fun hc => ?_) (fun hc => ?_))) | refine d_start (P := Tryz.prog) hH (fun hH => ?_) | (refine g_any ?_; (first | (apply d_done; exact rfl; kernel_rfl) | (apply d_next; exact rfl; exact rfl; exact rfl; kernel_rfl; (first | (simp only [falses, setB]; exact rfl) | exact rfl); exact hH.sub tSub; (intro w hH; (repeat (first | refine stpO ?_ | (refine g_load ?_; (first | (refine p_loadS hH rfl tW ?_))))); exact r_nil one_end)) | (apply d_split; exact rfl; exact rfl; exact rfl; exact rfl; exact rfl; intro hg; rotate_left; intro hg; rotate_right) | (apply d_all1; exact rfl; kernel_rfl; exact rfl; exact rfl) | (apply d_all2; exact rfl; kernel_rfl; exact rfl; exact rfl; exact rfl; exact rfl) | (apply d_all3; exact rfl; kernel_rfl; exact rfl; exact rfl; exact rfl; exact rfl; exact rfl; exact rfl))) | refine then_end (hH.sub tSub) ?_)
    all_goals refine e_end (H1 := [.pt p 100 (parV p s (.slice (some ⟨lg, 0, none⟩) s.line.length lc) fv ev), lineO s (.slice (some ⟨lg, 0, none⟩) s.line.length lc), fldO s fv]) (res1 rfl rfl) hH ⟨rfl, _, _, rfl⟩ tTk
  · have hA := eq_false_of_ne_true hA
    have hB : (!(decide ((c.toNat : Int) = 10) == decide (((s.line.getD (((s.line.length : Int) - 1).toNat * 1) 0).toNat : Int) = 13))) = false := by rw [g1, hA]; rfl
    have hC : (!decide (((s.line.getD (((s.line.length : Int) - 1).toNat * 1) 0).toNat : Int) = 13)) = true := by rw [hA]; rfl
    rw [take_ne gc (by rw [haf, hA]), grown_eq _ h10]
    clear haf
    refine callsA_of (args := [_, _]) Tryz.func52 rfl Tryz.ntmps52 (by simp) ?_
    intro w0 hH
    repeat' (first | refine stp ?_ | (refine g_guard ?_; (first | refine r_guardD rfl rfl rfl (fun hg hp => ?_) (fun hg hp => ?_) | refine r_guard rfl rfl rfl (fun hg => ?_) (fun hg => ?_))) | (refine g_load ?_; (first | (refine p_loadSB hH rfl rfl tO ?_) | (refine p_loadRB hH rfl rfl (by omega) tO ?_) | (refine p_loadS hH rfl tW ?_))) | (refine g_call ?_; (first | (refine k_call (g := 70) Tryz.func70 rfl rfl hH (EvL.cons (EvK.any rfl) EvL.nil) (c70 _) tTk tRd (fun v H1 w hT hH => ?_); obtain ⟨rfl, rfl⟩ := hT; simp only [List.nil_append, List.cons_append] at hH) | (refine p_appendL hH rfl rfl (Reads1.own (v := .nilIface) (Sel.mem tSel)) rfl rfl rfl tO rfl (fun vb vc w hH => ?_)))) | refine n_buildSlice1 hH tE rfl rfl rfl rfl tN (fun g w hg hH => ?_) | (refine r_toInt Tryz.underlying183 Tryz.underlying3 rfl (wrap_small (by omega)) ?_) | (refine p_toTextS hH rfl rfl tO rfl ?_) | (refine g_store ?_; (first | refine n_store hH rfl tE rfl rfl tN (fun w hH => ?_) | refine n_storeA hH rfl rfl rfl rfl rfl tN (fun w hH => ?_))) | refine n_alloc hH tW (fun g w hg hH => ?_) | (refine g_box ?_; (first | refine p_boxA hH rfl (fun g w hg hH => ?_) | refine p_boxI hH rfl (fun g w hg hH => ?_) | refine p_boxL hH rfl (fun g w hg hH => ?_))) | (refine g_cond ?_; (first | refine c_condD rfl (fun hc hp => ?_) (fun hc hp => ?_) | refine c_cond rfl (fun hc => ?_) (fun hc => ?_))) | refine d_start (P := Tryz.prog) hH (fun hH => ?_) | (refine g_any ?_; (first | (apply d_done; exact rfl; kernel_rfl) | (apply d_next; exact rfl; exact rfl; exact rfl; kernel_rfl; (first | (simp only [falses, setB]; exact rfl) | exact rfl); exact hH.sub tSub; (intro w hH; (repeat (first | refine stpO ?_ | (refine g_load ?_; (first | (refine p_loadS hH rfl tW ?_))))); exact r_nil one_end)) | (apply d_split; exact rfl; exact rfl; exact rfl; exact rfl; exact rfl; intro hg; rotate_left; intro hg; rotate_right) | (apply d_all1; exact rfl; kernel_rfl; exact rfl; exact rfl) | (apply d_all2; exact rfl; kernel_rfl; exact rfl; exact rfl; exact rfl; exact rfl) | (apply d_all3; exact rfl; kernel_rfl; exact rfl; exact rfl; exact rfl; exact rfl; exact rfl; exact rfl))) | refine then_end (hH.sub tSub) ?_)
    all_goals first
      | (rw [if_pos (by clear hH; simp only [decide_eq_true_eq, decide_eq_false_iff_not] at *; first | (split; omega; omega) | fail)]; exact e_end (H1 := [.pt p 100 (parV p { s with read := s.read + 1 } (.slice (some ⟨lg, 0, none⟩) s.line.length lc) fv ev), lineO s (.slice (some ⟨lg, 0, none⟩) s.line.length lc), fldO s fv]) (res1 rfl rfl) hH ⟨rfl, _, _, rfl⟩ tTk)
      | (rw [if_neg (by clear hH; simp only [decide_eq_true_eq, decide_eq_false_iff_not] at *; first | (split; omega; omega) | fail)]; refine e_end (H1 := [.pt p 100 (parV p { s with read := s.read + 1, line := s.line ++ [c] } (.slice vb (s.line.length + 1) vc) fv ev), .sl (.slice vb (s.line.length + 1) vc) 5 1 (s.line.length + 1) (bytesV s.line ++ [.int .u8 (c.toNat : Int)]), fldO s fv]) (res1 rfl rfl) hH ⟨rfl, .slice vb (s.line.length + 1) vc, fv, ?_⟩ tTk; simp [bytesV])

end Go.Proofs.YtiofekhdicfmoaaGreatDoor

namespace Go.Proofs.YtiofekhdicfmoaaGreatDoor
open Go Go.Hr
attribute [local irreducible] Go.wpList Go.Code.wp Go.Calls Go.Hr.CallsA Go.wpAnyH Go.callFunc Go.callMethod Go.Instr.typeAssert Go.Sem.run
set_option maxHeartbeats 4000000
set_option linter.all false

set_option maxRecDepth 8000 in
theorem c52nil (G : Glob) (p : Nat) (s : Hp.PS) (la : Option Addr) (lc : Nat) (fv ev : Value) (c : UInt8) (hs : Fit s) (hl : s.line = []) :
    CallsA Tryz.prog 52 (List.toArray [.pointer (some ⟨p, 0, none⟩), .int .u8 (c.toNat : Int)]) (GL G) [.pt p 100 (parV p s (.slice la s.line.length lc) fv ev), lineO s (.slice la s.line.length lc), fldO s fv] (TkT p ev (Hp.takeP s c)) := by
  obtain ⟨h1, h2, h3, h4, h5⟩ := hs
  have haf : Hp.afterP s.line = false := by rw [hl]; rfl
  have hn : s.line.length = 0 := by rw [hl]; rfl
  have g0 : decide ((0 : Int) < (s.line.length : Int)) = false := by simp; omega
  by_cases h10 : (c.toNat : Int) = 10
  · have g1 : decide ((c.toNat : Int) = 10) = true := by simpa using h10
    have gc : (c == 10) = true := by rw [c10_eq, g1]
    have hB : (!(decide ((c.toNat : Int) = 10) == false)) = true := by rw [g1]; rfl
    rw [take_81 (by rw [gc, haf]; rfl)]
    refine callsA_of (args := [_, _]) Tryz.func52 rfl Tryz.ntmps52 (by simp) ?_
    intro w0 hH
    repeat' (first | refine stp ?_ | (refine g_guard ?_; (first | refine r_guardD rfl rfl rfl (fun hg hp => ?_) (fun hg hp => ?_) | refine r_guard rfl rfl rfl (fun hg => ?_) (fun hg => ?_))) | (refine g_load ?_; (first | (refine p_loadSB hH rfl rfl tO ?_) | (refine p_loadRB hH rfl rfl (by omega) tO ?_) | (refine p_loadS hH rfl tW ?_))) | (refine g_call ?_; (first | (refine k_call (g := 70) Tryz.func70 rfl rfl hH (EvL.cons (EvK.any rfl) EvL.nil) (c70 _) tTk tRd (fun v H1 w hT hH => ?_); obtain ⟨rfl, rfl⟩ := hT; simp only [List.nil_append, List.cons_append] at hH) | (refine p_appendL hH rfl rfl (Reads1.own (v := .nilIface) (Sel.mem tSel)) rfl rfl rfl tO rfl (fun vb vc w hH => ?_)))) | refine n_buildSlice1 hH tE rfl rfl rfl rfl tN (fun g w hg hH => ?_) | (refine r_toInt Tryz.underlying183 Tryz.underlying3 rfl (wrap_small (by omega)) ?_) | (refine p_toTextS hH rfl rfl tO rfl ?_) | (refine g_store ?_; (first | refine n_store hH rfl tE rfl rfl tN (fun w hH => ?_) | refine n_storeA hH rfl rfl rfl rfl rfl tN (fun w hH => ?_))) | refine n_alloc hH tW (fun g w hg hH => ?_) | (refine g_box ?_; (first | refine p_boxA hH rfl (fun g w hg hH => ?_) | refine p_boxI hH rfl (fun g w hg hH => ?_) | refine p_boxL hH rfl (fun g w hg hH => ?_))) | (refine g_cond ?_; (first | refine c_condD rfl (fun hc hp => ?_) (fun hc hp => ?_) | refine c_cond rfl (fun hc => ?_) (fun hc => ?_))) | refine d_start (P := Tryz.prog) hH (fun hH => ?_) | (refine g_any ?_; (first | (apply d_done; exact rfl; kernel_rfl) | (apply d_next; exact rfl; exact rfl; exact rfl; kernel_rfl; (first | (simp only [falses, setB]; exact rfl) | exact rfl); exact hH.sub tSub; (intro w hH; (repeat (first | refine stpO ?_ | (refine g_load ?_; (first | (refine p_loadS hH rfl tW ?_))))); exact r_nil one_end)) | (apply d_split; exact rfl; exact rfl; exact rfl; exact rfl; exact rfl; intro hg; rotate_left; intro hg; rotate_right) | (apply d_all1; exact rfl; kernel_rfl; exact rfl; exact rfl) | (apply d_all2; exact rfl; kernel_rfl; exact rfl; exact rfl; exact rfl; exact rfl) | (apply d_all3; exact rfl; kernel_rfl; exact rfl; exact rfl; exact rfl; exact rfl; exact rfl; exact rfl))) | refine then_end (hH.sub tSub) ?_)
    all_goals refine e_end (H1 := [.pt p 100 (parV p s (.slice la s.line.length lc) fv ev), lineO s (.slice la s.line.length lc), fldO s fv]) (res1 rfl rfl) hH ⟨rfl, _, _, rfl⟩ tTk
  · have g1 : decide ((c.toNat : Int) = 10) = false := by simpa using h10
    have g2 : decide ((c.toNat : Int) ≠ 10) = true := by simpa using h10
    have gc : (c == 10) = false := by rw [c10_eq, g1]
    have hB : (!(decide ((c.toNat : Int) = 10) == false)) = false := by rw [g1]; rfl
    rw [take_ne gc haf, grown_eq _ h10]
    clear haf
    refine callsA_of (args := [_, _]) Tryz.func52 rfl Tryz.ntmps52 (by simp) ?_
    intro w0 hH
    repeat' (first | refine stp ?_ | (refine g_guard ?_; (first | refine r_guardD rfl rfl rfl (fun hg hp => ?_) (fun hg hp => ?_) | refine r_guard rfl rfl rfl (fun hg => ?_) (fun hg => ?_))) | (refine g_load ?_; (first | (refine p_loadSB hH rfl rfl tO ?_) | (refine p_loadRB hH rfl rfl (by omega) tO ?_) | (refine p_loadS hH rfl tW ?_))) | (refine g_call ?_; (first | (refine k_call (g := 70) Tryz.func70 rfl rfl hH (EvL.cons (EvK.any rfl) EvL.nil) (c70 _) tTk tRd (fun v H1 w hT hH => ?_); obtain ⟨rfl, rfl⟩ := hT; simp only [List.nil_append, List.cons_append] at hH) | (refine p_appendL hH rfl rfl (Reads1.own (v := .nilIface) (Sel.mem tSel)) rfl rfl rfl tO rfl (fun vb vc w hH => ?_)))) | refine n_buildSlice1 hH tE rfl rfl rfl rfl tN (fun g w hg hH => ?_) | (refine r_toInt Tryz.underlying183 Tryz.underlying3 rfl (wrap_small (by omega)) ?_) | (refine p_toTextS hH rfl rfl tO rfl ?_) | (refine g_store ?_; (first | refine n_store hH rfl tE rfl rfl tN (fun w hH => ?_) | refine n_storeA hH rfl rfl rfl rfl rfl tN (fun w hH => ?_))) | refine n_alloc hH tW (fun g w hg hH => ?_) | (refine g_box ?_; (first | refine p_boxA hH rfl (fun g w hg hH => ?_) | refine p_boxI hH rfl (fun g w hg hH => ?_) | refine p_boxL hH rfl (fun g w hg hH => ?_))) | (refine g_cond ?_; (first | refine c_condD rfl (fun hc hp => ?_) (fun hc hp => ?_) | refine c_cond rfl (fun hc => ?_) (fun hc => ?_))) | refine d_start (P := Tryz.prog) hH (fun hH => ?_) | (refine g_any ?_; (first | (apply d_done; exact rfl; kernel_rfl) | (apply d_next; exact rfl; exact rfl; exact rfl; kernel_rfl; (first | (simp only [falses, setB]; exact rfl) | exact rfl); exact hH.sub tSub; (intro w hH; (repeat (first | refine stpO ?_ | (refine g_load ?_; (first | (refine p_loadS hH rfl tW ?_))))); exact r_nil one_end)) | (apply d_split; exact rfl; exact rfl; exact rfl; exact rfl; exact rfl; intro hg; rotate_left; intro hg; rotate_right) | (apply d_all1; exact rfl; kernel_rfl; exact rfl; exact rfl) | (apply d_all2; exact rfl; kernel_rfl; exact rfl; exact rfl; exact rfl; exact rfl) | (apply d_all3; exact rfl; kernel_rfl; exact rfl; exact rfl; exact rfl; exact rfl; exact rfl; exact rfl))) | refine then_end (hH.sub tSub) ?_)
    all_goals first
      | (rw [if_pos (by clear hH; simp only [decide_eq_true_eq, decide_eq_false_iff_not] at *; first | (split; omega; omega) | fail)]; exact e_end (H1 := [.pt p 100 (parV p { s with read := s.read + 1 } (.slice la s.line.length lc) fv ev), lineO s (.slice la s.line.length lc), fldO s fv]) (res1 rfl rfl) hH ⟨rfl, _, _, rfl⟩ tTk)
      | (rw [if_neg (by clear hH; simp only [decide_eq_true_eq, decide_eq_false_iff_not] at *; first | (split; omega; omega) | fail)]; refine e_end (H1 := [.pt p 100 (parV p { s with read := s.read + 1, line := s.line ++ [c] } (.slice vb (s.line.length + 1) vc) fv ev), .sl (.slice vb (s.line.length + 1) vc) 5 1 (s.line.length + 1) (bytesV s.line ++ [.int .u8 (c.toNat : Int)]), fldO s fv]) (res1 rfl rfl) hH ⟨rfl, .slice vb (s.line.length + 1) vc, fv, ?_⟩ tTk; simp [bytesV])

end Go.Proofs.YtiofekhdicfmoaaGreatDoor
