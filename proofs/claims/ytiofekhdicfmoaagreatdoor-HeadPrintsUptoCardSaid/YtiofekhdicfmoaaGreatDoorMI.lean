import Derived.Test.YtiofekhdicfmoaaGreatDoorMH
import Derived.Test.YtiofekhdicfmoaaGreatDoorMB
import Derived.KernelRfl
import Derived.Test.YtiofekhdicfmoaaGreatDoorMD
set_option linter.all false
namespace Go.Proofs.YtiofekhdicfmoaaGreatDoor
open Go Go.Hr
attribute [local irreducible] Go.wpList Go.Code.wp Go.Calls Go.Hr.CallsA Go.wpAnyH Go.callFunc Go.callMethod Go.Instr.typeAssert Go.Sem.run
set_option maxHeartbeats 4000000
set_option linter.all false

set_option maxRecDepth 8000
abbrev FeedT (p : Nat) (r : Nat × Hp.PS) (v : Value) (H' : List Own) : Prop :=
  v = .tuple (List.toArray [.int .i64 (r.1 : Int), .bool r.2.whole, .int .i64 (Hp.codeP r.2 : Int)]) ∧ ∃ lv' fv', H' = [.pt p 100 (parV p r.2 lv' fv' (errP r.2.err)), lineO r.2 lv', fldO r.2 fv']
theorem c20e (G : Glob) (p : Nat) (s : Hp.PS) (lv fv : Value) (A : Option Addr) (bc : Nat) :
    CallsA Tryz.prog 20 (List.toArray [.pointer (some ⟨p, 0, none⟩), .slice A 0 bc]) (GL G) [.pt p 100 (parV p s lv fv (errP s.err)), lineO s lv, fldO s fv] (FeedT p (0, s)) := by
  obtain ⟨z, hz⟩ : ∃ z, s.err = z := ⟨_, rfl⟩
  have h53 : CallsA Tryz.prog 53 (List.toArray [errP z]) (GL G) [] (fun u H' => u = .int .i64 (Hp.codeP s : Int) ∧ H' = []) := by
    unfold Hp.codeP
    rw [hz]
    rcases z with _ | ⟨_ | k, kc⟩
    · exact c53n.moreR (by simp)
    · exact c53 G none (kc : Int)
    · exact c53 G (some (k : Int)) (kc : Int)
  rw [hz]
  refine callsA_of (args := [_, _]) Tryz.func20 rfl Tryz.ntmps20 (by simp) ?_
  intro w0 hH
  repeat' (first | refine stp ?_ | (refine g_guard ?_; (first | refine r_guardD rfl rfl rfl (fun hg hp => ?_) (fun hg hp => ?_) | refine r_guard rfl rfl rfl (fun hg => ?_) (fun hg => ?_))) | (refine g_load ?_; (first | (refine p_loadSB hH rfl rfl tO ?_) | (refine p_loadRB hH rfl rfl (by omega) tO ?_) | (refine p_loadS hH rfl tW ?_))) | (refine g_call ?_; (first | (refine p_appendL hH rfl rfl (Reads1.own (v := .nilIface) (Sel.mem tSel)) rfl rfl rfl tO rfl (fun vb vc w hH => ?_)))) | refine n_buildSlice1 hH tE rfl rfl rfl rfl tN (fun g w hg hH => ?_) | (refine r_toInt Tryz.underlying183 Tryz.underlying3 rfl (wrap_small (by omega)) ?_) | (refine p_toTextS hH rfl rfl tO rfl ?_) | (refine g_store ?_; (first | refine n_store hH rfl tE rfl rfl tN (fun w hH => ?_) | refine n_storeA hH rfl rfl rfl rfl rfl tN (fun w hH => ?_))) | refine n_alloc hH tW (fun g w hg hH => ?_) | (refine g_box ?_; (first | refine p_boxA hH rfl (fun g w hg hH => ?_) | refine p_boxI hH rfl (fun g w hg hH => ?_) | refine p_boxL hH rfl (fun g w hg hH => ?_))) | (refine g_cond ?_; (first | refine c_condD rfl (fun hc hp => ?_) (fun hc hp => ?_) | refine c_cond rfl (fun hc => ?_) (fun hc => ?_))) | refine d_start (P := Tryz.prog) hH (fun hH => ?_) | (refine g_any ?_; (first | (apply d_done; exact rfl; kernel_rfl) | (apply d_next; exact rfl; exact rfl; exact rfl; kernel_rfl; (first | (simp only [falses, setB]; exact rfl) | exact rfl); exact hH.sub tSub; (intro w hH; (repeat (first | refine stpO ?_ | (refine g_load ?_; (first | (refine p_loadS hH rfl tW ?_))))); exact r_nil one_end)) | (apply d_split; exact rfl; exact rfl; exact rfl; exact rfl; exact rfl; intro hg; rotate_left; intro hg; rotate_right) | (apply d_all1; exact rfl; kernel_rfl; exact rfl; exact rfl) | (apply d_all2; exact rfl; kernel_rfl; exact rfl; exact rfl; exact rfl; exact rfl) | (apply d_all3; exact rfl; kernel_rfl; exact rfl; exact rfl; exact rfl; exact rfl; exact rfl; exact rfl))) | refine then_end (hH.sub tSub) ?_)
  refine c_loopS (fun x : Nat => [(0, .pointer (some ⟨p, 0, none⟩)), (1, .slice A 0 bc), (7, .int .i64 (0 : Int))])
    (fun x w => Holds w0 (bl [.pt p 100 (parV p s lv fv (errP z)), lineO s lv, fldO s fv]) w (GL G) [.pt p 100 (parV p s lv fv (errP z)), lineO s lv, fldO s fv])
    (fun x => x) 0 tAg hH (fun x f w hH => ?_)
  repeat' (first | refine stp ?_ | (refine g_guard ?_; (first | refine r_guardD rfl rfl rfl (fun hg hp => ?_) (fun hg hp => ?_) | refine r_guard rfl rfl rfl (fun hg => ?_) (fun hg => ?_))) | (refine g_load ?_; (first | (refine p_loadSB hH rfl rfl tO ?_) | (refine p_loadRB hH rfl rfl (by omega) tO ?_) | (refine p_loadS hH rfl tW ?_))) | (refine g_call ?_; (first | (refine k_call (g := 53) Tryz.func53 rfl rfl hH (EvL.cons (EvK.any rfl) EvL.nil) (h53) tTk tRd (fun v H1 w hT hH => ?_); obtain ⟨rfl, rfl⟩ := hT; simp only [List.nil_append, List.cons_append] at hH) | (refine p_appendL hH rfl rfl (Reads1.own (v := .nilIface) (Sel.mem tSel)) rfl rfl rfl tO rfl (fun vb vc w hH => ?_)))) | refine n_buildSlice1 hH tE rfl rfl rfl rfl tN (fun g w hg hH => ?_) | (refine r_toInt Tryz.underlying183 Tryz.underlying3 rfl (wrap_small (by omega)) ?_) | (refine p_toTextS hH rfl rfl tO rfl ?_) | (refine g_store ?_; (first | refine n_store hH rfl tE rfl rfl tN (fun w hH => ?_) | refine n_storeA hH rfl rfl rfl rfl rfl tN (fun w hH => ?_))) | refine n_alloc hH tW (fun g w hg hH => ?_) | (refine g_box ?_; (first | refine p_boxA hH rfl (fun g w hg hH => ?_) | refine p_boxI hH rfl (fun g w hg hH => ?_) | refine p_boxL hH rfl (fun g w hg hH => ?_))) | (refine g_cond ?_; (first | refine c_condD rfl (fun hc hp => ?_) (fun hc hp => ?_) | refine c_cond rfl (fun hc => ?_) (fun hc => ?_))) | refine d_start (P := Tryz.prog) hH (fun hH => ?_) | (refine g_any ?_; (first | (apply d_done; exact rfl; kernel_rfl) | (apply d_next; exact rfl; exact rfl; exact rfl; kernel_rfl; (first | (simp only [falses, setB]; exact rfl) | exact rfl); exact hH.sub tSub; (intro w hH; (repeat (first | refine stpO ?_ | (refine g_load ?_; (first | (refine p_loadS hH rfl tW ?_))))); exact r_nil one_end)) | (apply d_split; exact rfl; exact rfl; exact rfl; exact rfl; exact rfl; intro hg; rotate_left; intro hg; rotate_right) | (apply d_all1; exact rfl; kernel_rfl; exact rfl; exact rfl) | (apply d_all2; exact rfl; kernel_rfl; exact rfl; exact rfl; exact rfl; exact rfl) | (apply d_all3; exact rfl; kernel_rfl; exact rfl; exact rfl; exact rfl; exact rfl; exact rfl; exact rfl))) | refine then_end (hH.sub tSub) ?_)
  all_goals refine e_end (H1 := [.pt p 100 (parV p s lv fv (errP z)), lineO s lv, fldO s fv]) (res3 rfl rfl rfl rfl) hH ⟨rfl, lv, fv, by rw [hz]⟩ tTk
theorem c20n (x : Value) : CallsA Tryz.prog 20 (List.toArray [.pointer none, x]) [] [] (fun v H' => v = .tuple (List.toArray [.int .i64 0, .bool false, .int .i64 7]) ∧ H' = []) := by
  refine callsA_of (args := [_, _]) Tryz.func20 rfl Tryz.ntmps20 (by simp) ?_
  intro w0 hH
  repeat' (first | refine stp ?_ | (refine g_guard ?_; (first | refine r_guardD rfl rfl rfl (fun hg hp => ?_) (fun hg hp => ?_) | refine r_guard rfl rfl rfl (fun hg => ?_) (fun hg => ?_))) | (refine g_load ?_; (first | (refine p_loadSB hH rfl rfl tO ?_) | (refine p_loadRB hH rfl rfl (by omega) tO ?_) | (refine p_loadS hH rfl tW ?_))) | (refine g_call ?_; (first | (refine p_appendL hH rfl rfl (Reads1.own (v := .nilIface) (Sel.mem tSel)) rfl rfl rfl tO rfl (fun vb vc w hH => ?_)))) | refine n_buildSlice1 hH tE rfl rfl rfl rfl tN (fun g w hg hH => ?_) | (refine r_toInt Tryz.underlying183 Tryz.underlying3 rfl (wrap_small (by omega)) ?_) | (refine p_toTextS hH rfl rfl tO rfl ?_) | (refine g_store ?_; (first | refine n_store hH rfl tE rfl rfl tN (fun w hH => ?_) | refine n_storeA hH rfl rfl rfl rfl rfl tN (fun w hH => ?_))) | refine n_alloc hH tW (fun g w hg hH => ?_) | (refine g_box ?_; (first | refine p_boxA hH rfl (fun g w hg hH => ?_) | refine p_boxI hH rfl (fun g w hg hH => ?_) | refine p_boxL hH rfl (fun g w hg hH => ?_))) | (refine g_cond ?_; (first | refine c_condD rfl (fun hc hp => ?_) (fun hc hp => ?_) | refine c_cond rfl (fun hc => ?_) (fun hc => ?_))) | refine d_start (P := Tryz.prog) hH (fun hH => ?_) | (refine g_any ?_; (first | (apply d_done; exact rfl; kernel_rfl) | (apply d_next; exact rfl; exact rfl; exact rfl; kernel_rfl; (first | (simp only [falses, setB]; exact rfl) | exact rfl); exact hH.sub tSub; (intro w hH; (repeat (first | refine stpO ?_ | (refine g_load ?_; (first | (refine p_loadS hH rfl tW ?_))))); exact r_nil one_end)) | (apply d_split; exact rfl; exact rfl; exact rfl; exact rfl; exact rfl; intro hg; rotate_left; intro hg; rotate_right) | (apply d_all1; exact rfl; kernel_rfl; exact rfl; exact rfl) | (apply d_all2; exact rfl; kernel_rfl; exact rfl; exact rfl; exact rfl; exact rfl) | (apply d_all3; exact rfl; kernel_rfl; exact rfl; exact rfl; exact rfl; exact rfl; exact rfl; exact rfl))) | refine then_end (hH.sub tSub) ?_)
  all_goals refine e_end (H1 := []) (res3 rfl rfl rfl rfl) hH ⟨rfl, rfl⟩ tTk
theorem c20 (G : Glob) (p : Nat) (s : Hp.PS) (lv fv : Value) (A : Option Addr) (bc : Nat) (b : List UInt8) (hbl : b.length ≤ 1099511627776) (hs : s.err = none → Fit s) :
    CallsA Tryz.prog 20 (List.toArray [.pointer (some ⟨p, 0, none⟩), .slice A b.length bc]) (⟨A, 1, b.length, bytesV b, none⟩ :: GL G) [.pt p 100 (parV p s lv fv (errP s.err)), lineO s lv, fldO s fv] (FeedT p (Hp.feedP s b)) := by
  by_cases hb : b = []
  · subst hb
    exact (c20e G p s lv fv A bc).moreR (fun r hr => List.mem_cons_of_mem _ hr)
  · refine CallsA.byPre fun w hw => ?_
    obtain ⟨ad, ha, _⟩ := (hw.ro _ (List.mem_cons_self ..)).1.2 (List.length_pos_iff.2 hb)
    simp only at ha
    subst ha
    exact c20a G p s lv fv ad bc b hb hbl hs
abbrev headV (h : Hp.HeadP) (fv : Value) : Value := .agg (List.toArray [.bool h.request, .string ⟨h.method.toArray⟩, .string ⟨h.target.toArray⟩, .int .i64 h.minor, .int .i64 h.status, .string ⟨h.reason.toArray⟩, fv])
abbrev fldsO (h : Hp.HeadP) (fv : Value) : Own := .sl fv 37 2 h.fields.length (fldV h.fields)
/-- a slice of a head's fields -/
abbrev slF (h : Hp.HeadP) (fa : Option Addr) (fc : Nat) : Value := .slice fa h.fields.length fc
theorem fldV_one (fs : List Hp.FieldP) : (fldV fs).all Value.oneCell' = true := by
  induction fs with
  | nil => rfl
  | cons a r ih =>
    show (Value.oneCell' _ && (Value.oneCell' _ && (fldV r).all Value.oneCell')) = true
    rw [ih]; rfl
theorem c21n : CallsA Tryz.prog 21 (List.toArray [.pointer none]) [] [] (fun v H' => v = headV {} NIL ∧ H' = []) := by
  refine callsA_of (args := [_]) Tryz.func21 rfl Tryz.ntmps21 (by simp) ?_
  intro w0 hH
  repeat' (first | refine stp ?_ | (refine g_guard ?_; (first | refine r_guardD rfl rfl rfl (fun hg hp => ?_) (fun hg hp => ?_) | refine r_guard rfl rfl rfl (fun hg => ?_) (fun hg => ?_))) | (refine g_load ?_; (first | (refine p_loadSB hH rfl rfl tO ?_) | (refine p_loadRB hH rfl rfl (by omega) tO ?_) | (refine p_loadS hH rfl tW ?_))) | (refine g_call ?_; (first | (refine p_appendL hH rfl rfl (Reads1.own (v := .nilIface) (Sel.mem tSel)) rfl rfl rfl tO rfl (fun vb vc w hH => ?_)))) | refine n_buildSlice1 hH tE rfl rfl rfl rfl tN (fun g w hg hH => ?_) | (refine r_toInt Tryz.underlying183 Tryz.underlying3 rfl (wrap_small (by omega)) ?_) | (refine p_toTextS hH rfl rfl tO rfl ?_) | (refine g_store ?_; (first | refine n_store hH rfl tE rfl rfl tN (fun w hH => ?_) | refine n_storeA hH rfl rfl rfl rfl rfl tN (fun w hH => ?_))) | refine n_alloc hH tW (fun g w hg hH => ?_) | (refine g_box ?_; (first | refine p_boxA hH rfl (fun g w hg hH => ?_) | refine p_boxI hH rfl (fun g w hg hH => ?_) | refine p_boxL hH rfl (fun g w hg hH => ?_))) | (refine g_cond ?_; (first | refine c_condD rfl (fun hc hp => ?_) (fun hc hp => ?_) | refine c_cond rfl (fun hc => ?_) (fun hc => ?_))) | refine d_start (P := Tryz.prog) hH (fun hH => ?_) | (refine g_any ?_; (first | (apply d_done; exact rfl; kernel_rfl) | (apply d_next; exact rfl; exact rfl; exact rfl; kernel_rfl; (first | (simp only [falses, setB]; exact rfl) | exact rfl); exact hH.sub tSub; (intro w hH; (repeat (first | refine stpO ?_ | (refine g_load ?_; (first | (refine p_loadS hH rfl tW ?_))))); exact r_nil one_end)) | (apply d_split; exact rfl; exact rfl; exact rfl; exact rfl; exact rfl; intro hg; rotate_left; intro hg; rotate_right) | (apply d_all1; exact rfl; kernel_rfl; exact rfl; exact rfl) | (apply d_all2; exact rfl; kernel_rfl; exact rfl; exact rfl; exact rfl; exact rfl) | (apply d_all3; exact rfl; kernel_rfl; exact rfl; exact rfl; exact rfl; exact rfl; exact rfl; exact rfl))) | refine then_end (hH.sub tSub) ?_)
  all_goals refine e_end (H1 := []) (resC1 (ty := 24) hH rfl rfl rfl) hH ⟨rfl, rfl⟩ tTk
theorem c21 (p : Nat) (s : Hp.PS) (lv fv ev : Value) (hf : s.head.fields.length ≤ 100) : CallsA Tryz.prog 21 (List.toArray [.pointer (some ⟨p, 0, none⟩)]) [] [.pt p 100 (parV p s lv fv ev), lineO s lv, fldO s fv]
    (fun v H' => ∃ fa fc, v = headV (if s.whole then s.head else {}) (slF (if s.whole then s.head else {}) fa fc) ∧ H' = [.pt p 100 (parV p s lv fv ev), lineO s lv, fldO s fv, fldsO (if s.whole then s.head else {}) (slF (if s.whole then s.head else {}) fa fc)]) := by
  by_cases hw : s.whole = true
  · have k1 : (!s.whole) = false := by rw [hw]; rfl
    rw [if_pos hw]
    refine callsA_of (args := [_]) Tryz.func21 rfl Tryz.ntmps21 (by simp) ?_
    intro w0 hH
    obtain ⟨fa, fc, rfl, hfc, _⟩ := hH.form0 (v := fv) (Sel.there (Sel.there (Sel.here _ _)))
    repeat' (first | refine stp ?_ | (refine g_guard ?_; (first | refine r_guardD rfl rfl rfl (fun hg hp => ?_) (fun hg hp => ?_) | refine r_guard rfl rfl rfl (fun hg => ?_) (fun hg => ?_))) | (refine g_load ?_; (first | (refine p_loadSB hH rfl rfl tO ?_) | (refine p_loadRB hH rfl rfl (by omega) tO ?_) | (refine p_loadS hH rfl tW ?_))) | (refine g_call ?_; (first | (refine p_appendNil hH rfl rfl (Reads1.own (v := .nilIface) (Sel.mem tSel)) rfl rfl (fldV_one _) (by omega) rfl (fun vb vc w hH => ?_)) | (refine p_appendL hH rfl rfl (Reads1.own (v := .nilIface) (Sel.mem tSel)) rfl rfl rfl tO rfl (fun vb vc w hH => ?_)))) | refine n_buildSlice1 hH tE rfl rfl rfl rfl tN (fun g w hg hH => ?_) | (refine r_toInt Tryz.underlying183 Tryz.underlying3 rfl (wrap_small (by omega)) ?_) | (refine p_toTextS hH rfl rfl tO rfl ?_) | (refine g_store ?_; (first | refine n_store hH rfl tE rfl rfl tN (fun w hH => ?_) | refine n_storeA hH rfl rfl rfl rfl rfl tN (fun w hH => ?_))) | refine n_alloc hH tW (fun g w hg hH => ?_) | (refine g_box ?_; (first | refine p_boxA hH rfl (fun g w hg hH => ?_) | refine p_boxI hH rfl (fun g w hg hH => ?_) | refine p_boxL hH rfl (fun g w hg hH => ?_))) | (refine g_cond ?_; (first | refine c_condD rfl (fun hc hp => ?_) (fun hc hp => ?_) | refine c_cond rfl (fun hc => ?_) (fun hc => ?_))) | refine d_start (P := Tryz.prog) hH (fun hH => ?_) | (refine g_any ?_; (first | (apply d_done; exact rfl; kernel_rfl) | (apply d_next; exact rfl; exact rfl; exact rfl; kernel_rfl; (first | (simp only [falses, setB]; exact rfl) | exact rfl); exact hH.sub tSub; (intro w hH; (repeat (first | refine stpO ?_ | (refine g_load ?_; (first | (refine p_loadS hH rfl tW ?_))))); exact r_nil one_end)) | (apply d_split; exact rfl; exact rfl; exact rfl; exact rfl; exact rfl; intro hg; rotate_left; intro hg; rotate_right) | (apply d_all1; exact rfl; kernel_rfl; exact rfl; exact rfl) | (apply d_all2; exact rfl; kernel_rfl; exact rfl; exact rfl; exact rfl; exact rfl) | (apply d_all3; exact rfl; kernel_rfl; exact rfl; exact rfl; exact rfl; exact rfl; exact rfl; exact rfl))) | refine then_end (hH.sub tSub) ?_)
    all_goals refine e_end (H1 := [.pt p 100 (parV p s lv (.slice fa s.head.fields.length fc) ev), lineO s lv, fldO s (.slice fa s.head.fields.length fc), fldsO s.head (.slice vb s.head.fields.length vc)]) (resC1 (ty := 24) hH rfl rfl rfl) hH ⟨_, _, rfl, rfl⟩ tTk
  · have hw := eq_false_of_ne_true hw
    have k1 : (!s.whole) = true := by rw [hw]; rfl
    rw [if_neg (by rw [hw]; decide)]
    refine callsA_of (args := [_]) Tryz.func21 rfl Tryz.ntmps21 (by simp) ?_
    intro w0 hH
    repeat' (first | refine stp ?_ | (refine g_guard ?_; (first | refine r_guardD rfl rfl rfl (fun hg hp => ?_) (fun hg hp => ?_) | refine r_guard rfl rfl rfl (fun hg => ?_) (fun hg => ?_))) | (refine g_load ?_; (first | (refine p_loadSB hH rfl rfl tO ?_) | (refine p_loadRB hH rfl rfl (by omega) tO ?_) | (refine p_loadS hH rfl tW ?_))) | (refine g_call ?_; (first | (refine p_appendL hH rfl rfl (Reads1.own (v := .nilIface) (Sel.mem tSel)) rfl rfl rfl tO rfl (fun vb vc w hH => ?_)))) | refine n_buildSlice1 hH tE rfl rfl rfl rfl tN (fun g w hg hH => ?_) | (refine r_toInt Tryz.underlying183 Tryz.underlying3 rfl (wrap_small (by omega)) ?_) | (refine p_toTextS hH rfl rfl tO rfl ?_) | (refine g_store ?_; (first | refine n_store hH rfl tE rfl rfl tN (fun w hH => ?_) | refine n_storeA hH rfl rfl rfl rfl rfl tN (fun w hH => ?_))) | refine n_alloc hH tW (fun g w hg hH => ?_) | (refine g_box ?_; (first | refine p_boxA hH rfl (fun g w hg hH => ?_) | refine p_boxI hH rfl (fun g w hg hH => ?_) | refine p_boxL hH rfl (fun g w hg hH => ?_))) | (refine g_cond ?_; (first | refine c_condD rfl (fun hc hp => ?_) (fun hc hp => ?_) | refine c_cond rfl (fun hc => ?_) (fun hc => ?_))) | refine d_start (P := Tryz.prog) hH (fun hH => ?_) | (refine g_any ?_; (first | (apply d_done; exact rfl; kernel_rfl) | (apply d_next; exact rfl; exact rfl; exact rfl; kernel_rfl; (first | (simp only [falses, setB]; exact rfl) | exact rfl); exact hH.sub tSub; (intro w hH; (repeat (first | refine stpO ?_ | (refine g_load ?_; (first | (refine p_loadS hH rfl tW ?_))))); exact r_nil one_end)) | (apply d_split; exact rfl; exact rfl; exact rfl; exact rfl; exact rfl; intro hg; rotate_left; intro hg; rotate_right) | (apply d_all1; exact rfl; kernel_rfl; exact rfl; exact rfl) | (apply d_all2; exact rfl; kernel_rfl; exact rfl; exact rfl; exact rfl; exact rfl) | (apply d_all3; exact rfl; kernel_rfl; exact rfl; exact rfl; exact rfl; exact rfl; exact rfl; exact rfl))) | refine then_end (hH.sub tSub) ?_)
    all_goals refine e_end (H1 := [.pt p 100 (parV p s lv fv ev), lineO s lv, fldO s fv, .sl NIL 37 2 0 []]) (resC1 (ty := 24) hH rfl rfl rfl) (hH.nil_ 37 2) ⟨none, 0, rfl, rfl⟩ tTk
theorem fit_new (r : Bool) (m : Nat) (hm : m ≤ 65536) : Fit (Hp.newP r m) := ⟨hm, Nat.zero_le _, Nat.le_refl _, Nat.le_refl _, Nat.zero_le _⟩
theorem fit_takeF (s : Hp.PS) (c : UInt8) (hs : Fit s) : (Hp.takeP s c).1.head.fields.length ≤ 100 := by
  have h5 := hs.fields
  by_cases h81 : ((c == 10) != Hp.afterP s.line) = true
  · rw [take_81 h81]; exact h5
  · cases hc : c == 10 with
    | false =>
      have ha : Hp.afterP s.line = false := by rw [hc] at h81; cases h : Hp.afterP s.line <;> simp_all
      rw [take_ne hc ha]
      split <;> exact h5
    | true =>
      have ha : Hp.afterP s.line = true := by rw [hc] at h81; cases h : Hp.afterP s.line <;> simp_all
      rw [take_eq hc ha]
      split
      · exact h5
      · exact (state_kept _ _).fields h5
theorem fit_feed (b : List UInt8) : ∀ s : Hp.PS, (s.err = none → Fit s) → s.head.fields.length ≤ 100 → (Hp.feedP s b).2.head.fields.length ≤ 100 := by
  induction b with
  | nil => intro s _ h; exact h
  | cons c r ih =>
    intro s hs h
    cases hst : s.stops with
    | true => rw [feed_stop s _ hst]; exact h
    | false =>
      rw [feed_step s c r hst]
      have he : s.err = none := by
        simp only [Hp.PS.stops, Bool.or_eq_false_iff] at hst
        cases hh : s.err with
        | none => rfl
        | some e => rw [hh] at hst; simp at hst
      refine ih _ (fun hn => ?_) (fit_takeF s c (hs he))
      obtain ⟨a1, a2, a3, a4, a5⟩ := fit_take s c (hs he) hn
      exact ⟨a1, a2, a3, a4, a5⟩
abbrev ParT (x : Hp.HeadP × Nat × Nat) (v : Value) (H' : List Own) : Prop :=
  ∃ fa fc, v = .tuple (List.toArray [headV x.1 (slF x.1 fa fc), .int .i64 (x.2.1 : Int), .int .i64 (x.2.2 : Int)]) ∧ H' = [fldsO x.1 (slF x.1 fa fc)]
theorem c18 (G : Glob) (r : Bool) (A : Option Addr) (bc : Nat) (b : List UInt8) (hbl : b.length ≤ 1099511627776) :
    CallsA Tryz.prog 18 (List.toArray [.bool r, .slice A b.length bc]) (⟨A, 1, b.length, bytesV b, none⟩ :: GL G) []
      (ParT (Hp.parseP r b)) := by
  obtain ⟨X, hX⟩ : ∃ X, Hp.feedP (Hp.newP r 65536) b = X := ⟨_, rfl⟩
  obtain ⟨n, q⟩ := X
  have hq : q.head.fields.length ≤ 100 := by
    have := fit_feed b (Hp.newP r 65536) (fun _ => fit_new r 65536 (by omega)) (by simp [Hp.newP])
    rw [hX] at this; exact this
  have h50 := c50 r 65536 (by omega)
  have h20 : ∀ p, CallsA Tryz.prog 20 (List.toArray [.pointer (some ⟨p, 0, none⟩), .slice A b.length bc]) (⟨A, 1, b.length, bytesV b, none⟩ :: GL G) [.pt p 100 (parV p (Hp.newP r 65536) NIL NIL .nilIface), .sl NIL 5 1 0 [], .sl NIL 37 2 0 []] (FeedT p (n, q)) := fun p => by
    have := c20 G p (Hp.newP r 65536) NIL NIL A bc b hbl (fun _ => fit_new r 65536 (by omega))
    rw [hX] at this
    exact this
  have hP : Hp.parseP r b = if Hp.codeP q ≠ 0 then ({}, 0, Hp.codeP q) else if q.whole then (q.head, n, 0) else ({}, 0, 6) := by
    unfold Hp.parseP; rw [hX]
  by_cases h0 : Hp.codeP q = 0
  · have k1 : decide ((Hp.codeP q : Int) ≠ 0) = false := by simpa using h0
    rw [if_neg (by simpa using h0)] at hP
    cases hw : q.whole with
    | true =>
      have k2 : (!q.whole) = false := by rw [hw]; rfl
      rw [hw, if_pos rfl] at hP
      rw [hP]
      have h21 : ∀ p lv fv ev, CallsA Tryz.prog 21 (List.toArray [.pointer (some ⟨p, 0, none⟩)]) [] [.pt p 100 (parV p q lv fv ev), lineO q lv, fldO q fv] (fun v H' => ∃ fa fc, v = headV q.head (slF q.head fa fc) ∧ H' = [.pt p 100 (parV p q lv fv ev), lineO q lv, fldO q fv, fldsO q.head (slF q.head fa fc)]) := fun p lv fv ev => by
        have := c21 p q lv fv ev hq
        rw [if_pos hw] at this
        exact this
      refine callsA_of (args := [_, _]) Tryz.func18 rfl Tryz.ntmps18 (by simp) ?_
      intro w0 hH
      repeat' (first | refine stp ?_ | (refine g_guard ?_; (first | refine r_guardD rfl rfl rfl (fun hg hp => ?_) (fun hg hp => ?_) | refine r_guard rfl rfl rfl (fun hg => ?_) (fun hg => ?_))) | (refine g_load ?_; (first | (refine p_loadSB hH rfl rfl tO ?_) | (refine p_loadRB hH rfl rfl (by omega) tO ?_) | (refine p_loadS hH rfl tW ?_))) | (refine g_call ?_; (first | (refine k_call (g := 50) Tryz.func50 rfl rfl hH (EvL.cons (EvK.any rfl) (EvL.cons (EvK.any rfl) EvL.nil)) (h50) tTk ReadsAll.nil (fun v H1 w hT hH => ?_); obtain ⟨p, rfl, rfl⟩ := hT; simp only [List.nil_append, List.cons_append] at hH) | (refine k_call (g := 20) Tryz.func20 rfl rfl hH (EvL.cons (EvK.any rfl) (EvL.cons (EvK.any rfl) EvL.nil)) (h20 _) tTk tRd (fun v H1 w hT hH => ?_); obtain ⟨rfl, lq, fq, rfl⟩ := hT; simp only [List.nil_append, List.cons_append] at hH) | (refine k_call (g := 21) Tryz.func21 rfl rfl hH (EvL.cons (EvK.any rfl) EvL.nil) (h21 _ _ _ _) tTk ReadsAll.nil (fun v H1 w hT hH => ?_); obtain ⟨ra, rc, rfl, rfl⟩ := hT; simp only [List.nil_append, List.cons_append] at hH) | (refine p_appendL hH rfl rfl (Reads1.own (v := .nilIface) (Sel.mem tSel)) rfl rfl rfl tO rfl (fun vb vc w hH => ?_)))) | refine n_buildSlice1 hH tE rfl rfl rfl rfl tN (fun g w hg hH => ?_) | (refine r_toInt Tryz.underlying183 Tryz.underlying3 rfl (wrap_small (by omega)) ?_) | (refine p_toTextS hH rfl rfl tO rfl ?_) | (refine g_store ?_; (first | refine n_store hH rfl tE rfl rfl tN (fun w hH => ?_) | refine n_storeA hH rfl rfl rfl rfl rfl tN (fun w hH => ?_))) | refine n_alloc hH tW (fun g w hg hH => ?_) | (refine g_box ?_; (first | refine p_boxA hH rfl (fun g w hg hH => ?_) | refine p_boxI hH rfl (fun g w hg hH => ?_) | refine p_boxL hH rfl (fun g w hg hH => ?_))) | (refine g_cond ?_; (first | refine c_condD rfl (fun hc hp => ?_) (fun hc hp => ?_) | refine c_cond rfl (fun hc => ?_) (fun hc => ?_))) | refine d_start (P := Tryz.prog) hH (fun hH => ?_) | (refine g_any ?_; (first | (apply d_done; exact rfl; kernel_rfl) | (apply d_next; exact rfl; exact rfl; exact rfl; kernel_rfl; (first | (simp only [falses, setB]; exact rfl) | exact rfl); exact hH.sub tSub; (intro w hH; (repeat (first | refine stpO ?_ | (refine g_load ?_; (first | (refine p_loadS hH rfl tW ?_))))); exact r_nil one_end)) | (apply d_split; exact rfl; exact rfl; exact rfl; exact rfl; exact rfl; intro hg; rotate_left; intro hg; rotate_right) | (apply d_all1; exact rfl; kernel_rfl; exact rfl; exact rfl) | (apply d_all2; exact rfl; kernel_rfl; exact rfl; exact rfl; exact rfl; exact rfl) | (apply d_all3; exact rfl; kernel_rfl; exact rfl; exact rfl; exact rfl; exact rfl; exact rfl; exact rfl))) | refine then_end (hH.sub tSub) ?_)
      all_goals refine e_end (H1 := [fldsO q.head (slF q.head ra rc)]) (resC3 (ty := 24) hH rfl rfl rfl rfl rfl) hH ⟨ra, rc, rfl, rfl⟩ tTk
    | false =>
      have k2 : (!q.whole) = true := by rw [hw]; rfl
      rw [hw, if_neg (by decide)] at hP
      rw [hP]
      refine callsA_of (args := [_, _]) Tryz.func18 rfl Tryz.ntmps18 (by simp) ?_
      intro w0 hH
      repeat' (first | refine stp ?_ | (refine g_guard ?_; (first | refine r_guardD rfl rfl rfl (fun hg hp => ?_) (fun hg hp => ?_) | refine r_guard rfl rfl rfl (fun hg => ?_) (fun hg => ?_))) | (refine g_load ?_; (first | (refine p_loadSB hH rfl rfl tO ?_) | (refine p_loadRB hH rfl rfl (by omega) tO ?_) | (refine p_loadS hH rfl tW ?_))) | (refine g_call ?_; (first | (refine k_call (g := 50) Tryz.func50 rfl rfl hH (EvL.cons (EvK.any rfl) (EvL.cons (EvK.any rfl) EvL.nil)) (h50) tTk ReadsAll.nil (fun v H1 w hT hH => ?_); obtain ⟨p, rfl, rfl⟩ := hT; simp only [List.nil_append, List.cons_append] at hH) | (refine k_call (g := 20) Tryz.func20 rfl rfl hH (EvL.cons (EvK.any rfl) (EvL.cons (EvK.any rfl) EvL.nil)) (h20 _) tTk tRd (fun v H1 w hT hH => ?_); obtain ⟨rfl, lq, fq, rfl⟩ := hT; simp only [List.nil_append, List.cons_append] at hH) | (refine p_appendL hH rfl rfl (Reads1.own (v := .nilIface) (Sel.mem tSel)) rfl rfl rfl tO rfl (fun vb vc w hH => ?_)))) | refine n_buildSlice1 hH tE rfl rfl rfl rfl tN (fun g w hg hH => ?_) | (refine r_toInt Tryz.underlying183 Tryz.underlying3 rfl (wrap_small (by omega)) ?_) | (refine p_toTextS hH rfl rfl tO rfl ?_) | (refine g_store ?_; (first | refine n_store hH rfl tE rfl rfl tN (fun w hH => ?_) | refine n_storeA hH rfl rfl rfl rfl rfl tN (fun w hH => ?_))) | refine n_alloc hH tW (fun g w hg hH => ?_) | (refine g_box ?_; (first | refine p_boxA hH rfl (fun g w hg hH => ?_) | refine p_boxI hH rfl (fun g w hg hH => ?_) | refine p_boxL hH rfl (fun g w hg hH => ?_))) | (refine g_cond ?_; (first | refine c_condD rfl (fun hc hp => ?_) (fun hc hp => ?_) | refine c_cond rfl (fun hc => ?_) (fun hc => ?_))) | refine d_start (P := Tryz.prog) hH (fun hH => ?_) | (refine g_any ?_; (first | (apply d_done; exact rfl; kernel_rfl) | (apply d_next; exact rfl; exact rfl; exact rfl; kernel_rfl; (first | (simp only [falses, setB]; exact rfl) | exact rfl); exact hH.sub tSub; (intro w hH; (repeat (first | refine stpO ?_ | (refine g_load ?_; (first | (refine p_loadS hH rfl tW ?_))))); exact r_nil one_end)) | (apply d_split; exact rfl; exact rfl; exact rfl; exact rfl; exact rfl; intro hg; rotate_left; intro hg; rotate_right) | (apply d_all1; exact rfl; kernel_rfl; exact rfl; exact rfl) | (apply d_all2; exact rfl; kernel_rfl; exact rfl; exact rfl; exact rfl; exact rfl) | (apply d_all3; exact rfl; kernel_rfl; exact rfl; exact rfl; exact rfl; exact rfl; exact rfl; exact rfl))) | refine then_end (hH.sub tSub) ?_)
      all_goals refine e_end (H1 := [.sl NIL 37 2 0 []]) (resC3 (ty := 24) hH rfl rfl rfl rfl rfl) (hH.nil_ 37 2) ⟨none, 0, rfl, rfl⟩ tTk
  · have k1 : decide ((Hp.codeP q : Int) ≠ 0) = true := by simp; omega
    rw [if_pos h0] at hP
    rw [hP]
    refine callsA_of (args := [_, _]) Tryz.func18 rfl Tryz.ntmps18 (by simp) ?_
    intro w0 hH
    repeat' (first | refine stp ?_ | (refine g_guard ?_; (first | refine r_guardD rfl rfl rfl (fun hg hp => ?_) (fun hg hp => ?_) | refine r_guard rfl rfl rfl (fun hg => ?_) (fun hg => ?_))) | (refine g_load ?_; (first | (refine p_loadSB hH rfl rfl tO ?_) | (refine p_loadRB hH rfl rfl (by omega) tO ?_) | (refine p_loadS hH rfl tW ?_))) | (refine g_call ?_; (first | (refine k_call (g := 50) Tryz.func50 rfl rfl hH (EvL.cons (EvK.any rfl) (EvL.cons (EvK.any rfl) EvL.nil)) (h50) tTk ReadsAll.nil (fun v H1 w hT hH => ?_); obtain ⟨p, rfl, rfl⟩ := hT; simp only [List.nil_append, List.cons_append] at hH) | (refine k_call (g := 20) Tryz.func20 rfl rfl hH (EvL.cons (EvK.any rfl) (EvL.cons (EvK.any rfl) EvL.nil)) (h20 _) tTk tRd (fun v H1 w hT hH => ?_); obtain ⟨rfl, lq, fq, rfl⟩ := hT; simp only [List.nil_append, List.cons_append] at hH) | (refine p_appendL hH rfl rfl (Reads1.own (v := .nilIface) (Sel.mem tSel)) rfl rfl rfl tO rfl (fun vb vc w hH => ?_)))) | refine n_buildSlice1 hH tE rfl rfl rfl rfl tN (fun g w hg hH => ?_) | (refine r_toInt Tryz.underlying183 Tryz.underlying3 rfl (wrap_small (by omega)) ?_) | (refine p_toTextS hH rfl rfl tO rfl ?_) | (refine g_store ?_; (first | refine n_store hH rfl tE rfl rfl tN (fun w hH => ?_) | refine n_storeA hH rfl rfl rfl rfl rfl tN (fun w hH => ?_))) | refine n_alloc hH tW (fun g w hg hH => ?_) | (refine g_box ?_; (first | refine p_boxA hH rfl (fun g w hg hH => ?_) | refine p_boxI hH rfl (fun g w hg hH => ?_) | refine p_boxL hH rfl (fun g w hg hH => ?_))) | (refine g_cond ?_; (first | refine c_condD rfl (fun hc hp => ?_) (fun hc hp => ?_) | refine c_cond rfl (fun hc => ?_) (fun hc => ?_))) | refine d_start (P := Tryz.prog) hH (fun hH => ?_) | (refine g_any ?_; (first | (apply d_done; exact rfl; kernel_rfl) | (apply d_next; exact rfl; exact rfl; exact rfl; kernel_rfl; (first | (simp only [falses, setB]; exact rfl) | exact rfl); exact hH.sub tSub; (intro w hH; (repeat (first | refine stpO ?_ | (refine g_load ?_; (first | (refine p_loadS hH rfl tW ?_))))); exact r_nil one_end)) | (apply d_split; exact rfl; exact rfl; exact rfl; exact rfl; exact rfl; intro hg; rotate_left; intro hg; rotate_right) | (apply d_all1; exact rfl; kernel_rfl; exact rfl; exact rfl) | (apply d_all2; exact rfl; kernel_rfl; exact rfl; exact rfl; exact rfl; exact rfl) | (apply d_all3; exact rfl; kernel_rfl; exact rfl; exact rfl; exact rfl; exact rfl; exact rfl; exact rfl))) | refine then_end (hH.sub tSub) ?_)
    all_goals refine e_end (H1 := [.sl NIL 37 2 0 []]) (resC3 (ty := 24) hH rfl rfl rfl rfl rfl) (hH.nil_ 37 2) ⟨none, 0, rfl, rfl⟩ tTk

end Go.Proofs.YtiofekhdicfmoaaGreatDoor

namespace Go.Proofs.YtiofekhdicfmoaaGreatDoor
open Go Go.Hr
attribute [local irreducible] Go.wpList Go.Code.wp Go.Calls Go.Hr.CallsA Go.wpAnyH Go.callFunc Go.callMethod Go.Instr.typeAssert Go.Sem.run
set_option maxHeartbeats 4000000
set_option linter.all false

set_option maxRecDepth 8000
open Go.RowKit
theorem part9 (cs : Array Value) (o : Nat) (v : Value) (w : World) (h : cs[o]? = some v) : (part 9 cs o).run Tryz.prog w = .ok v w := by
  have := run_isAgg (P := Tryz.prog) (w := w) Tryz.underlying9
  simp [part, this, flatD, h]
theorem eqIn37 (a b c d : List UInt8) (w : World) : (Op.equalIn 10000 37 (.agg (List.toArray [.string ⟨a.toArray⟩, .string ⟨b.toArray⟩])) (.agg (List.toArray [.string ⟨c.toArray⟩, .string ⟨d.toArray⟩]))).run Tryz.prog w = .ok (decide (a = c) && decide (b = d)) w := by
  have hS : Tryz.prog.underlying 37 = some (.struct (Tryz.prog.fieldsOf 37)) := by kernel_rfl
  have hp : Tryz.prog.stoodInHeld 37 = false := by kernel_rfl
  have he : ∀ (k : Nat) (p q : List UInt8) (w : World), (Op.equalIn (k + 1) 9 (.string ⟨p.toArray⟩) (.string ⟨q.toArray⟩)).run Tryz.prog w = .ok (decide (p = q)) w := fun k p q w => by
    simp [Op.equalIn, run_underlying Tryz.underlying9]
    have e : ((⟨p.toArray⟩ : ByteArray) == ⟨q.toArray⟩) = (p.toArray == q.toArray) := rfl
    rw [e]; by_cases h : p = q <;> simp [h]
  rw [show (10000 : Nat) = 9999 + 1 from rfl, run_equalIn_agg w 9999 37 _ _ hS hp]
  simp only [Program.fieldsOf, Tryz.underlying37]
  have p1 := fun cs v w => part9 cs 0 v w
  have p2 := fun cs v w => part9 cs 1 v w
  simp only [Op.eqFields, Sem.run_bind, p1 (List.toArray [.string ⟨a.toArray⟩, .string ⟨b.toArray⟩]) _ w rfl, p1 (List.toArray [.string ⟨c.toArray⟩, .string ⟨d.toArray⟩]) _ w rfl, Result.andThen_ok, he 9998, ne_eq, String.reduceEq, not_false_eq_true, if_true, p2 (List.toArray [.string ⟨a.toArray⟩, .string ⟨b.toArray⟩]) _ w rfl, p2 (List.toArray [.string ⟨c.toArray⟩, .string ⟨d.toArray⟩]) _ w rfl]
  have q1 := p2 (List.toArray [.string ⟨a.toArray⟩, .string ⟨b.toArray⟩]) _ w rfl
  have q2 := p2 (List.toArray [.string ⟨c.toArray⟩, .string ⟨d.toArray⟩]) _ w rfl
  by_cases h1 : a = c
  · subst h1
    by_cases h2 : b = d
    · subst h2; simp [q1, he 9998]
    · simp [q1, q2, h2, he 9998]
  · simp [h1, he 9998]
section
variable {ops rest : List Oper} {Q : Exit → Act → World → Prop} {n : Nat} {l : List (Nat × Value)} {f : Nat → Value} {w w' w0 : World}
  {dd i k : Nat} {ty u e : TypeId} {pos : String} {aft : Array Edge} {D : List Nat} {R : List Ro} {H H' : List Own} {x y : Operand} {g m c : Nat} {ad : Addr} {vs : List Value}
theorem guard37 : Tryz.prog.eqGuardType Tryz.prog.depth 37 = false := by kernel_rfl
theorem p_neF {a b c d : List UInt8} (hx : ev n l f x = .agg (List.toArray [.string ⟨a.toArray⟩, .string ⟨b.toArray⟩])) (hy : ev n l f y = .agg (List.toArray [.string ⟨c.toArray⟩, .string ⟨d.toArray⟩]))
    (k : wpList Tryz.prog ops.toArray Q rest (A n ((dd, .bool (!(decide (a = c) && decide (b = d)))) :: l) f) w) :
    wpList Tryz.prog ops.toArray Q (⟨some dd, .binOp .neq 37 x y u, ty, pos, aft, none⟩ :: rest) (A n l f) w :=
  r_val rfl rfl (by
    have hg := run_eqGuard_agg (P := Tryz.prog) w .neq 37 x y (List.toArray [.string ⟨a.toArray⟩, .string ⟨b.toArray⟩]) (List.toArray [.string ⟨c.toArray⟩, .string ⟨d.toArray⟩]) guard37
    have hr := run_neq_struct (P := Tryz.prog) w 37 (List.toArray [.string ⟨a.toArray⟩, .string ⟨b.toArray⟩]) (List.toArray [.string ⟨c.toArray⟩, .string ⟨d.toArray⟩])
    rw [eqIn37] at hr
    simp only [execOp, hx, hy, Sem.run_bind, hg, Result.andThen_ok, hr, Sem.run_pure]) k
theorem p_eqF {a b c d : List UInt8} (hx : ev n l f x = .agg (List.toArray [.string ⟨a.toArray⟩, .string ⟨b.toArray⟩])) (hy : ev n l f y = .agg (List.toArray [.string ⟨c.toArray⟩, .string ⟨d.toArray⟩]))
    (k : wpList Tryz.prog ops.toArray Q rest (A n ((dd, .bool (decide (a = c) && decide (b = d))) :: l) f) w) :
    wpList Tryz.prog ops.toArray Q (⟨some dd, .binOp .eql 37 x y u, ty, pos, aft, none⟩ :: rest) (A n l f) w :=
  r_val rfl rfl (by
    have hg := run_eqGuard_agg (P := Tryz.prog) w .eql 37 x y (List.toArray [.string ⟨a.toArray⟩, .string ⟨b.toArray⟩]) (List.toArray [.string ⟨c.toArray⟩, .string ⟨d.toArray⟩]) guard37
    have hr := run_eql_struct (P := Tryz.prog) w 37 (List.toArray [.string ⟨a.toArray⟩, .string ⟨b.toArray⟩]) (List.toArray [.string ⟨c.toArray⟩, .string ⟨d.toArray⟩])
    rw [eqIn37] at hr
    simp only [execOp, hx, hy, Sem.run_bind, hg, Result.andThen_ok, hr, Sem.run_pure]) k
abbrev fldAt (fs : List Hp.FieldP) (k : Nat) : List Value := [.string ⟨(fs.getD k default).name.toArray⟩, .string ⟨(fs.getD k default).value.toArray⟩]
theorem fldV_at (fs : List Hp.FieldP) : ∀ (k : Nat), k < fs.length → ∀ j v, (fldAt fs k)[j]? = some v → (fldV fs)[k * 2 + j]? = some v := by
  induction fs with
  | nil => intro k h; simp at h
  | cons a r ih =>
    intro k hk j v hv
    have e : fldV (a :: r) = [.string ⟨a.name.toArray⟩, .string ⟨a.value.toArray⟩] ++ fldV r := rfl
    rw [e]
    cases k with
    | zero =>
      rw [List.getElem?_append_left (by have := (List.getElem?_eq_some_iff.1 hv).1; simpa using this)]
      simpa [fldAt] using hv
    | succ k =>
      rw [List.getElem?_append_right (by simp; omega)]
      have := ih k (by simpa using hk) j v (by simpa [fldAt] using hv)
      rw [← this]
      congr 1
      simp; omega
theorem p_loadRF {fs : List Hp.FieldP} (hH : Holds w0 D w R H) (hx : ev n l f x = .pointer (some (ad.add (i * 2)))) [s : InR R ad 2 m vs] (hxs : vs = fldV fs) (hm : 0 < m) (hlt : i < fs.length)
    (k : wpList Tryz.prog ops.toArray Q rest (A n ((dd, .agg (fldAt fs i).toArray) :: l) f) w) :
    wpList Tryz.prog ops.toArray Q (⟨some dd, .load 37 x, ty, pos, aft, none⟩ :: rest) (A n l f) w :=
  p_loadRA hH hx hm rfl (by rw [hxs]; exact fldV_at fs i hlt) k
theorem p_loadSF {fs : List Hp.FieldP} (hH : Holds w0 D w R H) (hx : ev n l f x = .pointer (some ((⟨g, 0, none⟩ : Addr).add (i * 2)))) [s : SelB H g m c e 2 vs H'] (hxs : vs = fldV fs) (hlt : i < fs.length)
    (k : wpList Tryz.prog ops.toArray Q rest (A n ((dd, .agg (fldAt fs i).toArray) :: l) f) w) :
    wpList Tryz.prog ops.toArray Q (⟨some dd, .load 37 x, ty, pos, aft, none⟩ :: rest) (A n l f) w :=
  p_loadSA hH hx rfl (by rw [hxs]; exact fldV_at fs i hlt) k
end
theorem fld_take (xs ys : List Hp.FieldP) (i : Nat) (hx : i < xs.length) (hy : i < ys.length) (h : xs.take i = ys.take i) (h1 : (xs.getD i default).name = (ys.getD i default).name) (h2 : (xs.getD i default).value = (ys.getD i default).value) : xs.take (i + 1) = ys.take (i + 1) := by
  rw [List.take_succ_eq_append_getElem hx, List.take_succ_eq_append_getElem hy, h]
  simp only [List.getD, List.getElem?_eq_getElem hx, List.getElem?_eq_getElem hy, Option.getD_some] at h1 h2
  have : xs[i] = ys[i] := by
    cases hxi : xs[i]; cases hyi : ys[i]
    rw [hxi, hyi] at h1 h2
    simp only at h1 h2
    rw [h1, h2]
  rw [this]
theorem c51 (A B : Option Addr) (ca cb : Nat) (xs ys : List Hp.FieldP) (hl : xs.length ≤ 1099511627776) :
    CallsA Tryz.prog 51 (List.toArray [.slice A xs.length ca, .slice B ys.length cb]) [⟨A, 2, xs.length, fldV xs, none⟩, ⟨B, 2, ys.length, fldV ys, none⟩] [] (fun v H' => v = .bool (decide (xs = ys)) ∧ H' = []) := by
  refine CallsA.byPre fun w1 hw1 => ?_
  by_cases hn : xs.length = ys.length
  · have k0 : decide ((xs.length : Int) ≠ (ys.length : Int)) = false := by simp; omega
    refine callsA_of (args := [_, _]) Tryz.func51 rfl Tryz.ntmps51 (by simp) ?_
    intro w0 hH
    repeat' (first | refine stp ?_ | (refine g_guard ?_; (first | refine r_guardD rfl rfl rfl (fun hg hp => ?_) (fun hg hp => ?_) | refine r_guard rfl rfl rfl (fun hg => ?_) (fun hg => ?_))) | (refine g_load ?_; (first | (refine p_loadRF hH rfl rfl (by omega) tO ?_) | (refine p_loadSF hH rfl rfl tO ?_) | (refine p_loadSB hH rfl rfl tO ?_) | (refine p_loadRB hH rfl rfl (by omega) tO ?_) | (refine p_loadS hH rfl tW ?_))) | (refine g_call ?_; (first | (refine p_appendL hH rfl rfl (Reads1.own (v := .nilIface) (Sel.mem tSel)) rfl rfl rfl tO rfl (fun vb vc w hH => ?_)))) | refine n_buildSlice1 hH tE rfl rfl rfl rfl tN (fun g w hg hH => ?_) | (refine r_toInt Tryz.underlying183 Tryz.underlying3 rfl (wrap_small (by omega)) ?_) | (refine p_toTextS hH rfl rfl tO rfl ?_) | (refine p_neF rfl rfl ?_) | (refine p_eqF rfl rfl ?_) | (refine g_store ?_; (first | refine n_store hH rfl tE rfl rfl tN (fun w hH => ?_) | refine n_storeA hH rfl rfl rfl rfl rfl tN (fun w hH => ?_))) | refine n_alloc hH tW (fun g w hg hH => ?_) | (refine g_box ?_; (first | refine p_boxA hH rfl (fun g w hg hH => ?_) | refine p_boxI hH rfl (fun g w hg hH => ?_) | refine p_boxL hH rfl (fun g w hg hH => ?_))) | (refine g_cond ?_; (first | refine c_condD rfl (fun hc hp => ?_) (fun hc hp => ?_) | refine c_cond rfl (fun hc => ?_) (fun hc => ?_))) | refine d_start (P := Tryz.prog) hH (fun hH => ?_) | (refine g_any ?_; (first | (apply d_done; exact rfl; kernel_rfl) | (apply d_next; exact rfl; exact rfl; exact rfl; kernel_rfl; (first | (simp only [falses, setB]; exact rfl) | exact rfl); exact hH.sub tSub; (intro w hH; (repeat (first | refine stpO ?_ | (refine g_load ?_; (first | (refine p_loadRF hH rfl rfl (by omega) tO ?_) | (refine p_loadSF hH rfl rfl tO ?_) | (refine p_loadS hH rfl tW ?_))) | (refine p_neF rfl rfl ?_) | (refine p_eqF rfl rfl ?_))); exact r_nil one_end)) | (apply d_split; exact rfl; exact rfl; exact rfl; exact rfl; exact rfl; intro hg; rotate_left; intro hg; rotate_right) | (apply d_all1; exact rfl; kernel_rfl; exact rfl; exact rfl) | (apply d_all2; exact rfl; kernel_rfl; exact rfl; exact rfl; exact rfl; exact rfl) | (apply d_all3; exact rfl; kernel_rfl; exact rfl; exact rfl; exact rfl; exact rfl; exact rfl; exact rfl))) | refine then_end (hH.sub tSub) ?_)
    refine c_loopS (fun i : Nat => [(0, .slice A xs.length ca), (1, .slice B ys.length cb), (12, .int .i64 (xs.length : Int)), (13, .int .i64 (i : Int))])
      (fun i w => i ≤ xs.length ∧ xs.take i = ys.take i ∧ Holds w0 (bl []) w [⟨A, 2, xs.length, fldV xs, none⟩, ⟨B, 2, ys.length, fldV ys, none⟩] []) (fun i => xs.length - i) 0 tAg ⟨by omega, rfl, hH⟩ (fun i f w hI => ?_)
    obtain ⟨hi, htk, hH⟩ := hI
    by_cases hlt : i < xs.length
    · have k1 : decide ((i : Int) < (xs.length : Int)) = true := by simpa using hlt
      obtain ⟨aa, ha, _⟩ := (hH.ro _ (List.mem_cons_self ..)).1.2 (show 0 < xs.length by omega)
      obtain ⟨ab, hb, _⟩ := (hH.ro _ (List.mem_cons_of_mem _ (List.mem_cons_self ..))).1.2 (show 0 < ys.length by omega)
      simp only at ha hb
      subst ha hb
      have e1 : ((i : Int)).toNat = i := by omega
      repeat' (first | refine stp ?_ | (refine g_guard ?_; (first | refine r_guardD rfl rfl rfl (fun hg hp => ?_) (fun hg hp => ?_) | refine r_guard rfl rfl rfl (fun hg => ?_) (fun hg => ?_))) | (refine g_load ?_; (first | (refine p_loadRF hH rfl rfl (by omega) tO ?_) | (refine p_loadSF hH rfl rfl tO ?_) | (refine p_loadSB hH rfl rfl tO ?_) | (refine p_loadRB hH rfl rfl (by omega) tO ?_) | (refine p_loadS hH rfl tW ?_))) | (refine g_call ?_; (first | (refine p_appendL hH rfl rfl (Reads1.own (v := .nilIface) (Sel.mem tSel)) rfl rfl rfl tO rfl (fun vb vc w hH => ?_)))) | refine n_buildSlice1 hH tE rfl rfl rfl rfl tN (fun g w hg hH => ?_) | (refine r_toInt Tryz.underlying183 Tryz.underlying3 rfl (wrap_small (by omega)) ?_) | (refine p_toTextS hH rfl rfl tO rfl ?_) | (refine p_neF rfl rfl ?_) | (refine p_eqF rfl rfl ?_) | (refine g_store ?_; (first | refine n_store hH rfl tE rfl rfl tN (fun w hH => ?_) | refine n_storeA hH rfl rfl rfl rfl rfl tN (fun w hH => ?_))) | refine n_alloc hH tW (fun g w hg hH => ?_) | (refine g_box ?_; (first | refine p_boxA hH rfl (fun g w hg hH => ?_) | refine p_boxI hH rfl (fun g w hg hH => ?_) | refine p_boxL hH rfl (fun g w hg hH => ?_))) | (refine g_cond ?_; (first | refine c_condD rfl (fun hc hp => ?_) (fun hc hp => ?_) | refine c_cond rfl (fun hc => ?_) (fun hc => ?_))) | refine d_start (P := Tryz.prog) hH (fun hH => ?_) | (refine g_any ?_; (first | (apply d_done; exact rfl; kernel_rfl) | (apply d_next; exact rfl; exact rfl; exact rfl; kernel_rfl; (first | (simp only [falses, setB]; exact rfl) | exact rfl); exact hH.sub tSub; (intro w hH; (repeat (first | refine stpO ?_ | (refine g_load ?_; (first | (refine p_loadRF hH rfl rfl (by omega) tO ?_) | (refine p_loadSF hH rfl rfl tO ?_) | (refine p_loadS hH rfl tW ?_))) | (refine p_neF rfl rfl ?_) | (refine p_eqF rfl rfl ?_))); exact r_nil one_end)) | (apply d_split; exact rfl; exact rfl; exact rfl; exact rfl; exact rfl; intro hg; rotate_left; intro hg; rotate_right) | (apply d_all1; exact rfl; kernel_rfl; exact rfl; exact rfl) | (apply d_all2; exact rfl; kernel_rfl; exact rfl; exact rfl; exact rfl; exact rfl) | (apply d_all3; exact rfl; kernel_rfl; exact rfl; exact rfl; exact rfl; exact rfl; exact rfl; exact rfl))) | refine then_end (hH.sub tSub) ?_)
      · refine e_end (res1 rfl rfl) hH ⟨?_, rfl⟩ tTk
        refine congrArg Value.bool ?_
        symm
        apply decide_eq_false
        rintro rfl
        simp at hc
      · refine ⟨i + 1, _, _, by omega, rfl, tAg, by omega, ?_, hH⟩
        rw [e1] at hc
        simp only [Bool.not_eq_false', Bool.and_eq_true, decide_eq_true_eq] at hc
        exact fld_take xs ys i hlt (by omega) htk hc.1 hc.2
    · have k1 : decide ((i : Int) < (xs.length : Int)) = false := by simpa using hlt
      repeat' (first | refine stp ?_ | (refine g_guard ?_; (first | refine r_guardD rfl rfl rfl (fun hg hp => ?_) (fun hg hp => ?_) | refine r_guard rfl rfl rfl (fun hg => ?_) (fun hg => ?_))) | (refine g_load ?_; (first | (refine p_loadRF hH rfl rfl (by omega) tO ?_) | (refine p_loadSF hH rfl rfl tO ?_) | (refine p_loadSB hH rfl rfl tO ?_) | (refine p_loadRB hH rfl rfl (by omega) tO ?_) | (refine p_loadS hH rfl tW ?_))) | (refine g_call ?_; (first | (refine p_appendL hH rfl rfl (Reads1.own (v := .nilIface) (Sel.mem tSel)) rfl rfl rfl tO rfl (fun vb vc w hH => ?_)))) | refine n_buildSlice1 hH tE rfl rfl rfl rfl tN (fun g w hg hH => ?_) | (refine r_toInt Tryz.underlying183 Tryz.underlying3 rfl (wrap_small (by omega)) ?_) | (refine p_toTextS hH rfl rfl tO rfl ?_) | (refine p_neF rfl rfl ?_) | (refine p_eqF rfl rfl ?_) | (refine g_store ?_; (first | refine n_store hH rfl tE rfl rfl tN (fun w hH => ?_) | refine n_storeA hH rfl rfl rfl rfl rfl tN (fun w hH => ?_))) | refine n_alloc hH tW (fun g w hg hH => ?_) | (refine g_box ?_; (first | refine p_boxA hH rfl (fun g w hg hH => ?_) | refine p_boxI hH rfl (fun g w hg hH => ?_) | refine p_boxL hH rfl (fun g w hg hH => ?_))) | (refine g_cond ?_; (first | refine c_condD rfl (fun hc hp => ?_) (fun hc hp => ?_) | refine c_cond rfl (fun hc => ?_) (fun hc => ?_))) | refine d_start (P := Tryz.prog) hH (fun hH => ?_) | (refine g_any ?_; (first | (apply d_done; exact rfl; kernel_rfl) | (apply d_next; exact rfl; exact rfl; exact rfl; kernel_rfl; (first | (simp only [falses, setB]; exact rfl) | exact rfl); exact hH.sub tSub; (intro w hH; (repeat (first | refine stpO ?_ | (refine g_load ?_; (first | (refine p_loadRF hH rfl rfl (by omega) tO ?_) | (refine p_loadSF hH rfl rfl tO ?_) | (refine p_loadS hH rfl tW ?_))) | (refine p_neF rfl rfl ?_) | (refine p_eqF rfl rfl ?_))); exact r_nil one_end)) | (apply d_split; exact rfl; exact rfl; exact rfl; exact rfl; exact rfl; intro hg; rotate_left; intro hg; rotate_right) | (apply d_all1; exact rfl; kernel_rfl; exact rfl; exact rfl) | (apply d_all2; exact rfl; kernel_rfl; exact rfl; exact rfl; exact rfl; exact rfl) | (apply d_all3; exact rfl; kernel_rfl; exact rfl; exact rfl; exact rfl; exact rfl; exact rfl; exact rfl))) | refine then_end (hH.sub tSub) ?_)
      all_goals refine e_end (res1 rfl tW) hH ⟨?_, rfl⟩ tTk
      all_goals (refine congrArg Value.bool ?_; symm; apply decide_eq_true; have e : i = xs.length := by omega
                 subst e; rw [List.take_length, hn, List.take_length] at htk; exact htk)
  · have k0 : decide ((xs.length : Int) ≠ (ys.length : Int)) = true := by simp; omega
    refine callsA_of (args := [_, _]) Tryz.func51 rfl Tryz.ntmps51 (by simp) ?_
    intro w0 hH
    repeat' (first | refine stp ?_ | (refine g_guard ?_; (first | refine r_guardD rfl rfl rfl (fun hg hp => ?_) (fun hg hp => ?_) | refine r_guard rfl rfl rfl (fun hg => ?_) (fun hg => ?_))) | (refine g_load ?_; (first | (refine p_loadRF hH rfl rfl (by omega) tO ?_) | (refine p_loadSF hH rfl rfl tO ?_) | (refine p_loadSB hH rfl rfl tO ?_) | (refine p_loadRB hH rfl rfl (by omega) tO ?_) | (refine p_loadS hH rfl tW ?_))) | (refine g_call ?_; (first | (refine p_appendL hH rfl rfl (Reads1.own (v := .nilIface) (Sel.mem tSel)) rfl rfl rfl tO rfl (fun vb vc w hH => ?_)))) | refine n_buildSlice1 hH tE rfl rfl rfl rfl tN (fun g w hg hH => ?_) | (refine r_toInt Tryz.underlying183 Tryz.underlying3 rfl (wrap_small (by omega)) ?_) | (refine p_toTextS hH rfl rfl tO rfl ?_) | (refine p_neF rfl rfl ?_) | (refine p_eqF rfl rfl ?_) | (refine g_store ?_; (first | refine n_store hH rfl tE rfl rfl tN (fun w hH => ?_) | refine n_storeA hH rfl rfl rfl rfl rfl tN (fun w hH => ?_))) | refine n_alloc hH tW (fun g w hg hH => ?_) | (refine g_box ?_; (first | refine p_boxA hH rfl (fun g w hg hH => ?_) | refine p_boxI hH rfl (fun g w hg hH => ?_) | refine p_boxL hH rfl (fun g w hg hH => ?_))) | (refine g_cond ?_; (first | refine c_condD rfl (fun hc hp => ?_) (fun hc hp => ?_) | refine c_cond rfl (fun hc => ?_) (fun hc => ?_))) | refine d_start (P := Tryz.prog) hH (fun hH => ?_) | (refine g_any ?_; (first | (apply d_done; exact rfl; kernel_rfl) | (apply d_next; exact rfl; exact rfl; exact rfl; kernel_rfl; (first | (simp only [falses, setB]; exact rfl) | exact rfl); exact hH.sub tSub; (intro w hH; (repeat (first | refine stpO ?_ | (refine g_load ?_; (first | (refine p_loadRF hH rfl rfl (by omega) tO ?_) | (refine p_loadSF hH rfl rfl tO ?_) | (refine p_loadS hH rfl tW ?_))) | (refine p_neF rfl rfl ?_) | (refine p_eqF rfl rfl ?_))); exact r_nil one_end)) | (apply d_split; exact rfl; exact rfl; exact rfl; exact rfl; exact rfl; intro hg; rotate_left; intro hg; rotate_right) | (apply d_all1; exact rfl; kernel_rfl; exact rfl; exact rfl) | (apply d_all2; exact rfl; kernel_rfl; exact rfl; exact rfl; exact rfl; exact rfl) | (apply d_all3; exact rfl; kernel_rfl; exact rfl; exact rfl; exact rfl; exact rfl; exact rfl; exact rfl))) | refine then_end (hH.sub tSub) ?_)
    all_goals refine e_end (res1 rfl tW) hH ⟨?_, rfl⟩ tTk
    all_goals (refine congrArg Value.bool ?_; symm; apply decide_eq_false; rintro rfl; exact hn rfl)
theorem head_eq_iff (a b : Hp.HeadP) : a = b ↔ (a.request = b.request ∧ a.method = b.method ∧ a.target = b.target ∧ a.minor = b.minor ∧ a.status = b.status ∧ a.reason = b.reason ∧ a.fields = b.fields) := by
  cases a; cases b; simp
theorem c19 (x1 x2 : Hp.HeadP) (fa ga : Option Addr) (fc gc : Nat) (hl : x1.fields.length ≤ 1099511627776) :
    CallsA Tryz.prog 19 (List.toArray [headV x1 (slF x1 fa fc), headV x2 (slF x2 ga gc)]) [⟨fa, 2, x1.fields.length, fldV x1.fields, none⟩, ⟨ga, 2, x2.fields.length, fldV x2.fields, none⟩] [] (fun v H' => v = .bool (decide (x1 = x2)) ∧ H' = []) := by
  have h51 := c51 fa ga fc gc x1.fields x2.fields hl
  refine callsA_of (args := [_, _]) Tryz.func19 rfl Tryz.ntmps19 (by simp) ?_
  intro w0 hH
  repeat' (first | refine stp ?_ | (refine g_guard ?_; (first | refine r_guardD rfl rfl rfl (fun hg hp => ?_) (fun hg hp => ?_) | refine r_guard rfl rfl rfl (fun hg => ?_) (fun hg => ?_))) | (refine g_load ?_; (first | (refine p_loadRF hH rfl rfl (by omega) tO ?_) | (refine p_loadSF hH rfl rfl tO ?_) | (refine p_loadSB hH rfl rfl tO ?_) | (refine p_loadRB hH rfl rfl (by omega) tO ?_) | (refine p_loadS hH rfl tW ?_))) | (refine g_call ?_; (first | (refine k_call (g := 51) Tryz.func51 rfl rfl hH (EvL.cons (EvK.any rfl) (EvL.cons (EvK.any rfl) EvL.nil)) (h51) tTk tRd (fun v H1 w hT hH => ?_); obtain ⟨rfl, rfl⟩ := hT; simp only [List.nil_append, List.cons_append] at hH) | (refine p_appendL hH rfl rfl (Reads1.own (v := .nilIface) (Sel.mem tSel)) rfl rfl rfl tO rfl (fun vb vc w hH => ?_)))) | refine n_buildSlice1 hH tE rfl rfl rfl rfl tN (fun g w hg hH => ?_) | (refine r_toInt Tryz.underlying183 Tryz.underlying3 rfl (wrap_small (by omega)) ?_) | (refine p_toTextS hH rfl rfl tO rfl ?_) | (refine p_neF rfl rfl ?_) | (refine p_eqF rfl rfl ?_) | (refine g_store ?_; (first | refine n_store hH rfl tE rfl rfl tN (fun w hH => ?_) | refine n_storeA hH rfl rfl rfl rfl rfl tN (fun w hH => ?_))) | refine n_alloc hH tW (fun g w hg hH => ?_) | (refine g_box ?_; (first | refine p_boxA hH rfl (fun g w hg hH => ?_) | refine p_boxI hH rfl (fun g w hg hH => ?_) | refine p_boxL hH rfl (fun g w hg hH => ?_))) | (refine g_cond ?_; (first | refine c_condD rfl (fun hc hp => ?_) (fun hc hp => ?_) | refine c_cond rfl (fun hc => ?_) (fun hc => ?_))) | refine d_start (P := Tryz.prog) hH (fun hH => ?_) | (refine g_any ?_; (first | (apply d_done; exact rfl; kernel_rfl) | (apply d_next; exact rfl; exact rfl; exact rfl; kernel_rfl; (first | (simp only [falses, setB]; exact rfl) | exact rfl); exact hH.sub tSub; (intro w hH; (repeat (first | refine stpO ?_ | (refine g_load ?_; (first | (refine p_loadRF hH rfl rfl (by omega) tO ?_) | (refine p_loadSF hH rfl rfl tO ?_) | (refine p_loadS hH rfl tW ?_))) | (refine p_neF rfl rfl ?_) | (refine p_eqF rfl rfl ?_))); exact r_nil one_end)) | (apply d_split; exact rfl; exact rfl; exact rfl; exact rfl; exact rfl; intro hg; rotate_left; intro hg; rotate_right) | (apply d_all1; exact rfl; kernel_rfl; exact rfl; exact rfl) | (apply d_all2; exact rfl; kernel_rfl; exact rfl; exact rfl; exact rfl; exact rfl) | (apply d_all3; exact rfl; kernel_rfl; exact rfl; exact rfl; exact rfl; exact rfl; exact rfl; exact rfl))) | refine then_end (hH.sub tSub) ?_)
  all_goals refine e_end (res1 rfl tW) hH ⟨?_, rfl⟩ tTk
  all_goals (refine congrArg Value.bool ?_; clear hH; simp only [head_eq_iff]; simp_all)

end Go.Proofs.YtiofekhdicfmoaaGreatDoor

namespace Go.Proofs.YtiofekhdicfmoaaGreatDoor
open Go Go.Hr
attribute [local irreducible] Go.wpList Go.Code.wp Go.Calls Go.Hr.CallsA Go.wpAnyH Go.callFunc Go.callMethod Go.Instr.typeAssert Go.Sem.run
set_option maxHeartbeats 4000000
set_option linter.all false

set_option maxRecDepth 8000
open Go.RowKit
theorem x82 (v : Value) (w : World) : (callFunc 82 (List.toArray [v])).run Tryz.prog w = .ok (.value v) w := by kernel_rfl
theorem info87 : Tryz.prog.info? 87 = some ((Tryz.prog.info? 87).getD default) ∧ ((Tryz.prog.info? 87).getD default).size ≠ 0 := ⟨by kernel_rfl, by decide +kernel⟩
theorem lies87 : liesAt Tryz.prog Tryz.prog.depth 87 (2 / Tryz.prog.cellsOf 87) 0 87 1 = true := by kernel_rfl
theorem cells5 : Tryz.prog.cellsOf 5 = 1 := by kernel_rfl
abbrev bAt (b : Nat) : Value := .pointer (some ⟨b, 0, none⟩)
theorem c67n (b : Nat) (v : Value) : CallsA Tryz.prog 67 (List.toArray [bAt b]) [] [.pt b 87 [.pointer none, v]] (fun u H' => u = .tuple (List.toArray []) ∧ H' = [.pt b 87 [bAt b, v]]) := by
  refine callsA_of (args := [_]) Tryz.func67 rfl Tryz.ntmps67 (by simp) ?_
  intro w0 hH
  repeat' (first | refine stp ?_ | (refine g_guard ?_; (first | refine r_guardD rfl rfl rfl (fun hg hp => ?_) (fun hg hp => ?_) | refine r_guard rfl rfl rfl (fun hg => ?_) (fun hg => ?_))) | (refine g_load ?_; (first | (refine p_loadRF hH rfl rfl (by omega) tO ?_) | (refine p_loadSF hH rfl rfl tO ?_) | (refine p_loadSB hH rfl rfl tO ?_) | (refine p_loadRB hH rfl rfl (by omega) tO ?_) | (refine p_loadS hH rfl tW ?_))) | (refine g_call ?_; (first | (refine x_val (EvL.cons (EvK.any rfl) EvL.nil) (x82 _ _) ?_) | (refine p_appendL hH rfl rfl (Reads1.own (v := .nilIface) (Sel.mem tSel)) rfl rfl rfl tO rfl (fun vb vc w hH => ?_)))) | refine n_buildSlice1 hH tE rfl rfl rfl rfl tN (fun g w hg hH => ?_) | (refine r_toInt Tryz.underlying183 Tryz.underlying3 rfl (wrap_small (by omega)) ?_) | (refine p_toTextS hH rfl rfl tO rfl ?_) | (refine p_neF rfl rfl ?_) | (refine p_eqF rfl rfl ?_) | (refine r_toUnsafe Tryz.underlying85 Tryz.underlying146 info87.1 info87.2 hH rfl rfl ?_) | (refine r_fromUnsafe Tryz.underlying146 Tryz.underlying85 info87.1 hH rfl lies87 ?_) | (refine r_nePtrSame Tryz.underlying85 info87.1 rfl rfl ?_) | (refine g_store ?_; (first | refine n_store hH rfl tE rfl rfl tN (fun w hH => ?_) | refine n_storeA hH rfl rfl rfl rfl rfl tN (fun w hH => ?_))) | refine n_alloc hH tW (fun g w hg hH => ?_) | (refine g_box ?_; (first | refine p_boxA hH rfl (fun g w hg hH => ?_) | refine p_boxI hH rfl (fun g w hg hH => ?_) | refine p_boxL hH rfl (fun g w hg hH => ?_))) | (refine g_cond ?_; (first | refine c_condD rfl (fun hc hp => ?_) (fun hc hp => ?_) | refine c_cond rfl (fun hc => ?_) (fun hc => ?_))) | refine d_start (P := Tryz.prog) hH (fun hH => ?_) | (refine g_any ?_; (first | (apply d_done; exact rfl; kernel_rfl) | (apply d_next; exact rfl; exact rfl; exact rfl; kernel_rfl; (first | (simp only [falses, setB]; exact rfl) | exact rfl); exact hH.sub tSub; (intro w hH; (repeat (first | refine stpO ?_ | (refine g_load ?_; (first | (refine p_loadRF hH rfl rfl (by omega) tO ?_) | (refine p_loadSF hH rfl rfl tO ?_) | (refine p_loadS hH rfl tW ?_))) | (refine p_neF rfl rfl ?_) | (refine p_eqF rfl rfl ?_))); exact r_nil one_end)) | (apply d_split; exact rfl; exact rfl; exact rfl; exact rfl; exact rfl; intro hg; rotate_left; intro hg; rotate_right) | (apply d_all1; exact rfl; kernel_rfl; exact rfl; exact rfl) | (apply d_all2; exact rfl; kernel_rfl; exact rfl; exact rfl; exact rfl; exact rfl) | (apply d_all3; exact rfl; kernel_rfl; exact rfl; exact rfl; exact rfl; exact rfl; exact rfl; exact rfl))) | refine then_end (hH.sub tSub) ?_)
  all_goals refine e_end_ (H1 := [.pt b 87 [bAt b, v]]) (res0 rfl) hH ⟨rfl, rfl⟩ tTk
theorem c67s (b : Nat) (v : Value) : CallsA Tryz.prog 67 (List.toArray [bAt b]) [] [.pt b 87 [bAt b, v]] (fun u H' => u = .tuple (List.toArray []) ∧ H' = [.pt b 87 [bAt b, v]]) := by
  refine callsA_of (args := [_]) Tryz.func67 rfl Tryz.ntmps67 (by simp) ?_
  intro w0 hH
  repeat' (first | refine stp ?_ | (refine g_guard ?_; (first | refine r_guardD rfl rfl rfl (fun hg hp => ?_) (fun hg hp => ?_) | refine r_guard rfl rfl rfl (fun hg => ?_) (fun hg => ?_))) | (refine g_load ?_; (first | (refine p_loadRF hH rfl rfl (by omega) tO ?_) | (refine p_loadSF hH rfl rfl tO ?_) | (refine p_loadSB hH rfl rfl tO ?_) | (refine p_loadRB hH rfl rfl (by omega) tO ?_) | (refine p_loadS hH rfl tW ?_))) | (refine g_call ?_; (first | (refine x_val (EvL.cons (EvK.any rfl) EvL.nil) (x82 _ _) ?_) | (refine p_appendL hH rfl rfl (Reads1.own (v := .nilIface) (Sel.mem tSel)) rfl rfl rfl tO rfl (fun vb vc w hH => ?_)))) | refine n_buildSlice1 hH tE rfl rfl rfl rfl tN (fun g w hg hH => ?_) | (refine r_toInt Tryz.underlying183 Tryz.underlying3 rfl (wrap_small (by omega)) ?_) | (refine p_toTextS hH rfl rfl tO rfl ?_) | (refine p_neF rfl rfl ?_) | (refine p_eqF rfl rfl ?_) | (refine r_toUnsafe Tryz.underlying85 Tryz.underlying146 info87.1 info87.2 hH rfl rfl ?_) | (refine r_fromUnsafe Tryz.underlying146 Tryz.underlying85 info87.1 hH rfl lies87 ?_) | (refine r_nePtrSame Tryz.underlying85 info87.1 rfl rfl ?_) | (refine g_store ?_; (first | refine n_store hH rfl tE rfl rfl tN (fun w hH => ?_) | refine n_storeA hH rfl rfl rfl rfl rfl tN (fun w hH => ?_))) | refine n_alloc hH tW (fun g w hg hH => ?_) | (refine g_box ?_; (first | refine p_boxA hH rfl (fun g w hg hH => ?_) | refine p_boxI hH rfl (fun g w hg hH => ?_) | refine p_boxL hH rfl (fun g w hg hH => ?_))) | (refine g_cond ?_; (first | refine c_condD rfl (fun hc hp => ?_) (fun hc hp => ?_) | refine c_cond rfl (fun hc => ?_) (fun hc => ?_))) | refine d_start (P := Tryz.prog) hH (fun hH => ?_) | (refine g_any ?_; (first | (apply d_done; exact rfl; kernel_rfl) | (apply d_next; exact rfl; exact rfl; exact rfl; kernel_rfl; (first | (simp only [falses, setB]; exact rfl) | exact rfl); exact hH.sub tSub; (intro w hH; (repeat (first | refine stpO ?_ | (refine g_load ?_; (first | (refine p_loadRF hH rfl rfl (by omega) tO ?_) | (refine p_loadSF hH rfl rfl tO ?_) | (refine p_loadS hH rfl tW ?_))) | (refine p_neF rfl rfl ?_) | (refine p_eqF rfl rfl ?_))); exact r_nil one_end)) | (apply d_split; exact rfl; exact rfl; exact rfl; exact rfl; exact rfl; intro hg; rotate_left; intro hg; rotate_right) | (apply d_all1; exact rfl; kernel_rfl; exact rfl; exact rfl) | (apply d_all2; exact rfl; kernel_rfl; exact rfl; exact rfl; exact rfl; exact rfl) | (apply d_all3; exact rfl; kernel_rfl; exact rfl; exact rfl; exact rfl; exact rfl; exact rfl; exact rfl))) | refine then_end (hH.sub tSub) ?_)
  all_goals refine e_end_ (H1 := [.pt b 87 [bAt b, v]]) (res0 rfl) hH ⟨rfl, rfl⟩ tTk
/-- A builder that holds some bytes, in memory. -/
abbrev bldO (b : Nat) (ap : Value) (A : Option Addr) (n c : Nat) (l : List UInt8) : List Own := [.pt b 87 [ap, .slice A n c], .sl (.slice A n c) 5 1 n (bytesV l)]
theorem c44 (b : Nat) (ap : Value) (hap : ap = .pointer none ∨ ap = bAt b) (A : Option Addr) (c : Nat) (l s : List UInt8) (hl : l.length + s.length ≤ 1099511627776) :
    CallsA Tryz.prog 44 (List.toArray [bAt b, .string ⟨s.toArray⟩]) [] (bldO b ap A l.length c l)
      (fun u H' => ∃ B c', u = .tuple (List.toArray [.int .i64 (s.length : Int), .nilIface]) ∧ H' = bldO b (bAt b) B (l ++ s).length c' (l ++ s)) := by
  have h67 : CallsA Tryz.prog 67 (List.toArray [bAt b]) [] [.pt b 87 [ap, .slice A l.length c]] (fun u H' => u = .tuple (List.toArray []) ∧ H' = [.pt b 87 [bAt b, .slice A l.length c]]) := by
    rcases hap with rfl | rfl
    · exact c67n b _
    · exact c67s b _
  refine callsA_of (args := [_, _]) Tryz.func44 rfl Tryz.ntmps44 (by simp) ?_
  intro w0 hH
  repeat' (first | refine stp ?_ | (refine g_guard ?_; (first | refine r_guardD rfl rfl rfl (fun hg hp => ?_) (fun hg hp => ?_) | refine r_guard rfl rfl rfl (fun hg => ?_) (fun hg => ?_))) | (refine g_load ?_; (first | (refine p_loadRF hH rfl rfl (by omega) tO ?_) | (refine p_loadSF hH rfl rfl tO ?_) | (refine p_loadSB hH rfl rfl tO ?_) | (refine p_loadRB hH rfl rfl (by omega) tO ?_) | (refine p_loadS hH rfl tW ?_))) | (refine g_call ?_; (first | (refine k_call (g := 67) Tryz.func67 rfl rfl hH (EvL.cons (EvK.any rfl) EvL.nil) (h67) tTk ReadsAll.nil (fun v H1 w hT hH => ?_); obtain ⟨rfl, rfl⟩ := hT; simp only [List.nil_append, List.cons_append] at hH) | (refine p_appendS hH rfl rfl tO (fun vb vc w hH => ?_)) | (refine p_appendL hH rfl rfl (Reads1.own (v := .nilIface) (Sel.mem tSel)) rfl rfl rfl tO rfl (fun vb vc w hH => ?_)))) | refine n_buildSlice1 hH tE rfl rfl rfl rfl tN (fun g w hg hH => ?_) | (refine r_toInt Tryz.underlying183 Tryz.underlying3 rfl (wrap_small (by omega)) ?_) | (refine p_toTextS hH rfl rfl tO rfl ?_) | (refine p_neF rfl rfl ?_) | (refine p_eqF rfl rfl ?_) | (refine g_store ?_; (first | refine n_store hH rfl tE rfl rfl tN (fun w hH => ?_) | refine n_storeA hH rfl rfl rfl rfl rfl tN (fun w hH => ?_))) | refine n_alloc hH tW (fun g w hg hH => ?_) | (refine g_box ?_; (first | refine p_boxA hH rfl (fun g w hg hH => ?_) | refine p_boxI hH rfl (fun g w hg hH => ?_) | refine p_boxL hH rfl (fun g w hg hH => ?_))) | (refine g_cond ?_; (first | refine c_condD rfl (fun hc hp => ?_) (fun hc hp => ?_) | refine c_cond rfl (fun hc => ?_) (fun hc => ?_))) | refine d_start (P := Tryz.prog) hH (fun hH => ?_) | (refine g_any ?_; (first | (apply d_done; exact rfl; kernel_rfl) | (apply d_next; exact rfl; exact rfl; exact rfl; kernel_rfl; (first | (simp only [falses, setB]; exact rfl) | exact rfl); exact hH.sub tSub; (intro w hH; (repeat (first | refine stpO ?_ | (refine g_load ?_; (first | (refine p_loadRF hH rfl rfl (by omega) tO ?_) | (refine p_loadSF hH rfl rfl tO ?_) | (refine p_loadS hH rfl tW ?_))) | (refine p_neF rfl rfl ?_) | (refine p_eqF rfl rfl ?_))); exact r_nil one_end)) | (apply d_split; exact rfl; exact rfl; exact rfl; exact rfl; exact rfl; intro hg; rotate_left; intro hg; rotate_right) | (apply d_all1; exact rfl; kernel_rfl; exact rfl; exact rfl) | (apply d_all2; exact rfl; kernel_rfl; exact rfl; exact rfl; exact rfl; exact rfl) | (apply d_all3; exact rfl; kernel_rfl; exact rfl; exact rfl; exact rfl; exact rfl; exact rfl; exact rfl))) | refine then_end (hH.sub tSub) ?_)
  all_goals refine e_end (H1 := bldO b (bAt b) vb (l ++ s).length vc (l ++ s)) (res2 rfl rfl rfl) (H := bldO b (bAt b) vb (l ++ s).length vc (l ++ s)) (by simpa [bldO, bytesV] using hH) ⟨_, _, rfl, rfl⟩ tTk
theorem c45 (b : Nat) (ap : Value) (g c : Nat) (l : List UInt8) (hne : l ≠ []) (hlen : l.length ≤ 1099511627776) (hc : l.length ≤ c) :
    CallsA Tryz.prog 45 (List.toArray [bAt b]) [] (bldO b ap (some ⟨g, 0, none⟩) l.length c l)
      (fun u H' => u = .string ⟨l.toArray⟩ ∧ H' = [.pt b 87 [ap, .slice (some ⟨g, 0, none⟩) l.length c], .fz g 5 (bytesV l)]) := by
  have hpos := List.length_pos_iff.2 hne
  refine callsA_of (args := [_]) Tryz.func45 rfl Tryz.ntmps45 (by simp) ?_
  intro w0 hH
  repeat' (first | refine stp ?_ | (refine g_guard ?_; (first | refine r_guardD rfl rfl rfl (fun hg hp => ?_) (fun hg hp => ?_) | refine r_guard rfl rfl rfl (fun hg => ?_) (fun hg => ?_))) | (refine g_load ?_; (first | (refine p_loadRF hH rfl rfl (by omega) tO ?_) | (refine p_loadSF hH rfl rfl tO ?_) | (refine p_loadSB hH rfl rfl tO ?_) | (refine p_loadRB hH rfl rfl (by omega) tO ?_) | (refine p_loadS hH rfl tW ?_))) | (refine g_call ?_; (first | (refine r_sliceData rfl (by omega) ?_) | (refine r_unsafeStr Tryz.underlying124 cells5 hH rfl rfl rfl rfl hne hlen (fun w hH => ?_)) | (refine p_appendL hH rfl rfl (Reads1.own (v := .nilIface) (Sel.mem tSel)) rfl rfl rfl tO rfl (fun vb vc w hH => ?_)))) | refine n_buildSlice1 hH tE rfl rfl rfl rfl tN (fun g w hg hH => ?_) | (refine r_toInt Tryz.underlying183 Tryz.underlying3 rfl (wrap_small (by omega)) ?_) | (refine p_toTextS hH rfl rfl tO rfl ?_) | (refine p_neF rfl rfl ?_) | (refine p_eqF rfl rfl ?_) | (refine g_store ?_; (first | refine n_store hH rfl tE rfl rfl tN (fun w hH => ?_) | refine n_storeA hH rfl rfl rfl rfl rfl tN (fun w hH => ?_))) | refine n_alloc hH tW (fun g w hg hH => ?_) | (refine g_box ?_; (first | refine p_boxA hH rfl (fun g w hg hH => ?_) | refine p_boxI hH rfl (fun g w hg hH => ?_) | refine p_boxL hH rfl (fun g w hg hH => ?_))) | (refine g_cond ?_; (first | refine c_condD rfl (fun hc hp => ?_) (fun hc hp => ?_) | refine c_cond rfl (fun hc => ?_) (fun hc => ?_))) | refine d_startS (P := Tryz.prog) hH (Sub.keep Sub.nil) (fun hH => ?_) | refine d_start (P := Tryz.prog) hH (fun hH => ?_) | (refine g_any ?_; (first | (apply d_done; exact rfl; kernel_rfl) | (apply d_next; exact rfl; exact rfl; exact rfl; kernel_rfl; (first | (simp only [falses, setB]; exact rfl) | exact rfl); exact hH.sub tSub; (intro w hH; (repeat (first | refine stpO ?_ | (refine g_load ?_; (first | (refine p_loadRF hH rfl rfl (by omega) tO ?_) | (refine p_loadSF hH rfl rfl tO ?_) | (refine p_loadS hH rfl tW ?_))) | (refine p_neF rfl rfl ?_) | (refine p_eqF rfl rfl ?_))); exact r_nil one_end)) | (apply d_split; exact rfl; exact rfl; exact rfl; exact rfl; exact rfl; intro hg; rotate_left; intro hg; rotate_right) | (apply d_all1; exact rfl; kernel_rfl; exact rfl; exact rfl) | (apply d_all2; exact rfl; kernel_rfl; exact rfl; exact rfl; exact rfl; exact rfl) | (apply d_all3; exact rfl; kernel_rfl; exact rfl; exact rfl; exact rfl; exact rfl; exact rfl; exact rfl))) | refine then_end (hH.sub tSub) ?_)
  all_goals refine e_end (H1 := [.pt b 87 [ap, .slice (some ⟨g, 0, none⟩) l.length c], .fz g 5 (bytesV l)]) (res1 rfl rfl) hH ⟨rfl, rfl⟩ tTk
theorem c45z (b : Nat) (ap : Value) (g c : Nat) (l : List UInt8) (hne : l ≠ []) (hlen : l.length ≤ 1099511627776) (hc : l.length ≤ c) :
    CallsA Tryz.prog 45 (List.toArray [bAt b]) [] [.pt b 87 [ap, .slice (some ⟨g, 0, none⟩) l.length c], .fz g 5 (bytesV l)]
      (fun u H' => u = .string ⟨l.toArray⟩ ∧ H' = [.pt b 87 [ap, .slice (some ⟨g, 0, none⟩) l.length c], .fz g 5 (bytesV l)]) := by
  have hpos := List.length_pos_iff.2 hne
  refine callsA_of (args := [_]) Tryz.func45 rfl Tryz.ntmps45 (by simp) ?_
  intro w0 hH
  repeat' (first | refine stp ?_ | (refine g_guard ?_; (first | refine r_guardD rfl rfl rfl (fun hg hp => ?_) (fun hg hp => ?_) | refine r_guard rfl rfl rfl (fun hg => ?_) (fun hg => ?_))) | (refine g_load ?_; (first | (refine p_loadRF hH rfl rfl (by omega) tO ?_) | (refine p_loadSF hH rfl rfl tO ?_) | (refine p_loadSB hH rfl rfl tO ?_) | (refine p_loadRB hH rfl rfl (by omega) tO ?_) | (refine p_loadS hH rfl tW ?_))) | (refine g_call ?_; (first | (refine r_sliceData rfl (by omega) ?_) | (refine r_unsafeStrZ Tryz.underlying124 cells5 hH rfl rfl rfl hne hlen (fun w hH => ?_)) | (refine p_appendL hH rfl rfl (Reads1.own (v := .nilIface) (Sel.mem tSel)) rfl rfl rfl tO rfl (fun vb vc w hH => ?_)))) | refine n_buildSlice1 hH tE rfl rfl rfl rfl tN (fun g w hg hH => ?_) | (refine r_toInt Tryz.underlying183 Tryz.underlying3 rfl (wrap_small (by omega)) ?_) | (refine p_toTextS hH rfl rfl tO rfl ?_) | (refine p_neF rfl rfl ?_) | (refine p_eqF rfl rfl ?_) | (refine g_store ?_; (first | refine n_store hH rfl tE rfl rfl tN (fun w hH => ?_) | refine n_storeA hH rfl rfl rfl rfl rfl tN (fun w hH => ?_))) | refine n_alloc hH tW (fun g w hg hH => ?_) | (refine g_box ?_; (first | refine p_boxA hH rfl (fun g w hg hH => ?_) | refine p_boxI hH rfl (fun g w hg hH => ?_) | refine p_boxL hH rfl (fun g w hg hH => ?_))) | (refine g_cond ?_; (first | refine c_condD rfl (fun hc hp => ?_) (fun hc hp => ?_) | refine c_cond rfl (fun hc => ?_) (fun hc => ?_))) | refine d_startS (P := Tryz.prog) hH (Sub.keep Sub.nil) (fun hH => ?_) | refine d_start (P := Tryz.prog) hH (fun hH => ?_) | (refine g_any ?_; (first | (apply d_done; exact rfl; kernel_rfl) | (apply d_next; exact rfl; exact rfl; exact rfl; kernel_rfl; (first | (simp only [falses, setB]; exact rfl) | exact rfl); exact hH.sub tSub; (intro w hH; (repeat (first | refine stpO ?_ | (refine g_load ?_; (first | (refine p_loadRF hH rfl rfl (by omega) tO ?_) | (refine p_loadSF hH rfl rfl tO ?_) | (refine p_loadS hH rfl tW ?_))) | (refine p_neF rfl rfl ?_) | (refine p_eqF rfl rfl ?_))); exact r_nil one_end)) | (apply d_split; exact rfl; exact rfl; exact rfl; exact rfl; exact rfl; intro hg; rotate_left; intro hg; rotate_right) | (apply d_all1; exact rfl; kernel_rfl; exact rfl; exact rfl) | (apply d_all2; exact rfl; kernel_rfl; exact rfl; exact rfl; exact rfl; exact rfl) | (apply d_all3; exact rfl; kernel_rfl; exact rfl; exact rfl; exact rfl; exact rfl; exact rfl; exact rfl))) | refine then_end (hH.sub tSub) ?_)
  all_goals refine e_end (H1 := [.pt b 87 [ap, .slice (some ⟨g, 0, none⟩) l.length c], .fz g 5 (bytesV l)]) (res1 rfl rfl) hH ⟨rfl, rfl⟩ tTk
theorem c46 (b : Nat) (ap : Value) (A : Option Addr) (m c : Nat) : CallsA Tryz.prog 46 (List.toArray [bAt b]) [] [.pt b 87 [ap, .slice A m c]] (fun u H' => u = .int .i64 (m : Int) ∧ H' = [.pt b 87 [ap, .slice A m c]]) := by
  refine callsA_of (args := [_]) Tryz.func46 rfl Tryz.ntmps46 (by simp) ?_
  intro w0 hH
  repeat' (first | refine stp ?_ | (refine g_guard ?_; (first | refine r_guardD rfl rfl rfl (fun hg hp => ?_) (fun hg hp => ?_) | refine r_guard rfl rfl rfl (fun hg => ?_) (fun hg => ?_))) | (refine g_load ?_; (first | (refine p_loadRF hH rfl rfl (by omega) tO ?_) | (refine p_loadSF hH rfl rfl tO ?_) | (refine p_loadSB hH rfl rfl tO ?_) | (refine p_loadRB hH rfl rfl (by omega) tO ?_) | (refine p_loadS hH rfl tW ?_))) | (refine g_call ?_; (first | (refine p_appendL hH rfl rfl (Reads1.own (v := .nilIface) (Sel.mem tSel)) rfl rfl rfl tO rfl (fun vb vc w hH => ?_)))) | refine n_buildSlice1 hH tE rfl rfl rfl rfl tN (fun g w hg hH => ?_) | (refine r_toInt Tryz.underlying183 Tryz.underlying3 rfl (wrap_small (by omega)) ?_) | (refine p_toTextS hH rfl rfl tO rfl ?_) | (refine p_neF rfl rfl ?_) | (refine p_eqF rfl rfl ?_) | (refine g_store ?_; (first | refine n_store hH rfl tE rfl rfl tN (fun w hH => ?_) | refine n_storeA hH rfl rfl rfl rfl rfl tN (fun w hH => ?_))) | refine n_alloc hH tW (fun g w hg hH => ?_) | (refine g_box ?_; (first | refine p_boxA hH rfl (fun g w hg hH => ?_) | refine p_boxI hH rfl (fun g w hg hH => ?_) | refine p_boxL hH rfl (fun g w hg hH => ?_))) | (refine g_cond ?_; (first | refine c_condD rfl (fun hc hp => ?_) (fun hc hp => ?_) | refine c_cond rfl (fun hc => ?_) (fun hc => ?_))) | refine d_start (P := Tryz.prog) hH (fun hH => ?_) | (refine g_any ?_; (first | (apply d_done; exact rfl; kernel_rfl) | (apply d_next; exact rfl; exact rfl; exact rfl; kernel_rfl; (first | (simp only [falses, setB]; exact rfl) | exact rfl); exact hH.sub tSub; (intro w hH; (repeat (first | refine stpO ?_ | (refine g_load ?_; (first | (refine p_loadRF hH rfl rfl (by omega) tO ?_) | (refine p_loadSF hH rfl rfl tO ?_) | (refine p_loadS hH rfl tW ?_))) | (refine p_neF rfl rfl ?_) | (refine p_eqF rfl rfl ?_))); exact r_nil one_end)) | (apply d_split; exact rfl; exact rfl; exact rfl; exact rfl; exact rfl; intro hg; rotate_left; intro hg; rotate_right) | (apply d_all1; exact rfl; kernel_rfl; exact rfl; exact rfl) | (apply d_all2; exact rfl; kernel_rfl; exact rfl; exact rfl; exact rfl; exact rfl) | (apply d_all3; exact rfl; kernel_rfl; exact rfl; exact rfl; exact rfl; exact rfl; exact rfl; exact rfl))) | refine then_end (hH.sub tSub) ?_)
  all_goals refine e_end (H1 := [.pt b 87 [ap, .slice A m c]]) (res1 rfl rfl) hH ⟨rfl, rfl⟩ tTk
theorem pow_tab {G : Glob} {w0 w : World} {D : List Nat} {H : List Own} (hH : Holds w0 D w (GL G) H) : Lib.TabIs Tryz.prog w "internal/strconv.uint64pow10" .u64 Lib.pow10Tab := by
  obtain ⟨t, fr, hb⟩ := whole_ro hH (gPow_mem G) rfl rfl
  have hg : Tryz.prog.globalNamed "internal/strconv.uint64pow10" = some 1 := by kernel_rfl
  unfold Lib.TabIs World.var?
  simp [hg, hb]
theorem c43 (G : Glob) (k : Int) (h0 : -9223372036854775808 ≤ k) (h1 : k ≤ 9223372036854775807) : CallsA Tryz.prog 43 (List.toArray [.int .i64 k]) (GL G) [] (fun v H' => v = .string ⟨(Lib.itoa k).toArray⟩ ∧ H' = []) := by
  unfold CallsA
  intro w hw
  refine (Tryz.strconv_Itoa k h0 h1 w (pow_tab hw)).mono fun e w' he => ?_
  obtain ⟨he, k, os, rfl⟩ := he
  exact ⟨_, [], he, ⟨rfl, rfl⟩, (hw.drewN k).growW os⟩

end Go.Proofs.YtiofekhdicfmoaaGreatDoor

namespace Go.Proofs.YtiofekhdicfmoaaGreatDoor
open Go Go.Hr
attribute [local irreducible] Go.wpList Go.Code.wp Go.Calls Go.Hr.CallsA Go.wpAnyH Go.callFunc Go.callMethod Go.Instr.typeAssert Go.Sem.run
set_option maxHeartbeats 4000000
set_option linter.all false

set_option maxRecDepth 8000
theorem c47 (x1 x2 : Hp.HeadP) (fa ga : Option Addr) (fc gc : Nat) (hl : x1.fields.length ≤ 1099511627776) :
    CallsA Tryz.prog 47 (List.toArray [headV x1 (slF x1 fa fc), headV x2 (slF x2 ga gc)]) [⟨fa, 2, x1.fields.length, fldV x1.fields, none⟩, ⟨ga, 2, x2.fields.length, fldV x2.fields, none⟩] [] (fun v H' => v = .bool (decide (x1 = x2)) ∧ H' = []) := by
  by_cases hn : x1.fields.length = x2.fields.length
  · have k0 : decide ((x1.fields.length : Int) ≠ (x2.fields.length : Int)) = false := by simp; omega
    refine callsA_of (args := [_, _]) Tryz.func47 rfl Tryz.ntmps47 (by simp) ?_
    intro w0 hH
    repeat' (first | refine stp ?_ | (refine g_guard ?_; (first | refine r_guardD rfl rfl rfl (fun hg hp => ?_) (fun hg hp => ?_) | refine r_guard rfl rfl rfl (fun hg => ?_) (fun hg => ?_))) | (refine g_load ?_; (first | (refine p_loadRF hH rfl rfl (by omega) tO ?_) | (refine p_loadSF hH rfl rfl tO ?_) | (refine p_loadSB hH rfl rfl tO ?_) | (refine p_loadRB hH rfl rfl (by omega) tO ?_) | (refine p_loadS hH rfl tW ?_))) | (refine g_call ?_; (first | (refine p_appendL hH rfl rfl (Reads1.own (v := .nilIface) (Sel.mem tSel)) rfl rfl rfl tO rfl (fun vb vc w hH => ?_)))) | refine n_buildSlice1 hH tE rfl rfl rfl rfl tN (fun g w hg hH => ?_) | (refine r_toInt Tryz.underlying183 Tryz.underlying3 rfl (wrap_small (by omega)) ?_) | (refine p_toTextS hH rfl rfl tO rfl ?_) | (refine p_neF rfl rfl ?_) | (refine p_eqF rfl rfl ?_) | (refine g_store ?_; (first | refine n_store hH rfl tE rfl rfl tN (fun w hH => ?_) | refine n_storeA hH rfl rfl rfl rfl rfl tN (fun w hH => ?_))) | refine n_alloc hH tW (fun g w hg hH => ?_) | (refine g_box ?_; (first | refine p_boxA hH rfl (fun g w hg hH => ?_) | refine p_boxI hH rfl (fun g w hg hH => ?_) | refine p_boxL hH rfl (fun g w hg hH => ?_))) | (refine g_cond ?_; (first | refine c_condD rfl (fun hc hp => ?_) (fun hc hp => ?_) | refine c_cond rfl (fun hc => ?_) (fun hc => ?_))) | refine d_start (P := Tryz.prog) hH (fun hH => ?_) | (refine g_any ?_; (first | (apply d_done; exact rfl; kernel_rfl) | (apply d_next; exact rfl; exact rfl; exact rfl; kernel_rfl; (first | (simp only [falses, setB]; exact rfl) | exact rfl); exact hH.sub tSub; (intro w hH; (repeat (first | refine stpO ?_ | (refine g_load ?_; (first | (refine p_loadRF hH rfl rfl (by omega) tO ?_) | (refine p_loadSF hH rfl rfl tO ?_) | (refine p_loadS hH rfl tW ?_))) | (refine p_neF rfl rfl ?_) | (refine p_eqF rfl rfl ?_))); exact r_nil one_end)) | (apply d_split; exact rfl; exact rfl; exact rfl; exact rfl; exact rfl; intro hg; rotate_left; intro hg; rotate_right) | (apply d_all1; exact rfl; kernel_rfl; exact rfl; exact rfl) | (apply d_all2; exact rfl; kernel_rfl; exact rfl; exact rfl; exact rfl; exact rfl) | (apply d_all3; exact rfl; kernel_rfl; exact rfl; exact rfl; exact rfl; exact rfl; exact rfl; exact rfl))) | refine then_end (hH.sub tSub) ?_)
    rename_i g1 w1 hg1 hH1
    refine c_loopS (fun i : Nat => [(2, bAt g1), (3, bAt g), (15, slF x1 fa fc), (16, .int .i64 (x1.fields.length : Int)), (17, .int .i64 (i : Int))])
      (fun i w => i ≤ x1.fields.length ∧ x1.fields.take i = x2.fields.take i ∧ Holds w0 (bl []) w [⟨fa, 2, x1.fields.length, fldV x1.fields, none⟩, ⟨ga, 2, x2.fields.length, fldV x2.fields, none⟩] [.pt g 24 [.bool x2.request, .string ⟨x2.method.toArray⟩, .string ⟨x2.target.toArray⟩, .int .i64 x2.minor, .int .i64 x2.status, .string ⟨x2.reason.toArray⟩, slF x2 ga gc], .pt g1 24 [.bool x1.request, .string ⟨x1.method.toArray⟩, .string ⟨x1.target.toArray⟩, .int .i64 x1.minor, .int .i64 x1.status, .string ⟨x1.reason.toArray⟩, slF x1 fa fc]]) (fun i => x1.fields.length - i) 0 tAg ⟨by omega, rfl, hH⟩ (fun i f w hI => ?_)
    clear hH1 hH
    obtain ⟨hi, htk, hH⟩ := hI
    by_cases hlt : i < x1.fields.length
    · have k1 : decide ((i : Int) < (x1.fields.length : Int)) = true := by simpa using hlt
      obtain ⟨aa, ha, _⟩ := (hH.ro _ (List.mem_cons_self ..)).1.2 (show 0 < x1.fields.length by omega)
      obtain ⟨ab, hb, _⟩ := (hH.ro _ (List.mem_cons_of_mem _ (List.mem_cons_self ..))).1.2 (show 0 < x2.fields.length by omega)
      simp only at ha hb
      subst ha hb
      have e1 : ((i : Int)).toNat = i := by omega
      repeat' (first | refine stp ?_ | (refine g_guard ?_; (first | refine r_guardD rfl rfl rfl (fun hg hp => ?_) (fun hg hp => ?_) | refine r_guard rfl rfl rfl (fun hg => ?_) (fun hg => ?_))) | (refine g_load ?_; (first | (refine p_loadRF hH rfl rfl (by omega) tO ?_) | (refine p_loadSF hH rfl rfl tO ?_) | (refine p_loadSB hH rfl rfl tO ?_) | (refine p_loadRB hH rfl rfl (by omega) tO ?_) | (refine p_loadS hH rfl tW ?_))) | (refine g_call ?_; (first | (refine p_appendL hH rfl rfl (Reads1.own (v := .nilIface) (Sel.mem tSel)) rfl rfl rfl tO rfl (fun vb vc w hH => ?_)))) | refine n_buildSlice1 hH tE rfl rfl rfl rfl tN (fun g w hg hH => ?_) | (refine r_toInt Tryz.underlying183 Tryz.underlying3 rfl (wrap_small (by omega)) ?_) | (refine p_toTextS hH rfl rfl tO rfl ?_) | (refine p_neF rfl rfl ?_) | (refine p_eqF rfl rfl ?_) | (refine g_store ?_; (first | refine n_store hH rfl tE rfl rfl tN (fun w hH => ?_) | refine n_storeA hH rfl rfl rfl rfl rfl tN (fun w hH => ?_))) | refine n_alloc hH tW (fun g w hg hH => ?_) | (refine g_box ?_; (first | refine p_boxA hH rfl (fun g w hg hH => ?_) | refine p_boxI hH rfl (fun g w hg hH => ?_) | refine p_boxL hH rfl (fun g w hg hH => ?_))) | (refine g_cond ?_; (first | refine c_condD rfl (fun hc hp => ?_) (fun hc hp => ?_) | refine c_cond rfl (fun hc => ?_) (fun hc => ?_))) | refine d_start (P := Tryz.prog) hH (fun hH => ?_) | (refine g_any ?_; (first | (apply d_done; exact rfl; kernel_rfl) | (apply d_next; exact rfl; exact rfl; exact rfl; kernel_rfl; (first | (simp only [falses, setB]; exact rfl) | exact rfl); exact hH.sub tSub; (intro w hH; (repeat (first | refine stpO ?_ | (refine g_load ?_; (first | (refine p_loadRF hH rfl rfl (by omega) tO ?_) | (refine p_loadSF hH rfl rfl tO ?_) | (refine p_loadS hH rfl tW ?_))) | (refine p_neF rfl rfl ?_) | (refine p_eqF rfl rfl ?_))); exact r_nil one_end)) | (apply d_split; exact rfl; exact rfl; exact rfl; exact rfl; exact rfl; intro hg; rotate_left; intro hg; rotate_right) | (apply d_all1; exact rfl; kernel_rfl; exact rfl; exact rfl) | (apply d_all2; exact rfl; kernel_rfl; exact rfl; exact rfl; exact rfl; exact rfl) | (apply d_all3; exact rfl; kernel_rfl; exact rfl; exact rfl; exact rfl; exact rfl; exact rfl; exact rfl))) | refine then_end (hH.sub tSub) ?_)
      · refine e_end (res1 rfl rfl) hH ⟨?_, rfl⟩ tTk
        refine congrArg Value.bool ?_
        symm
        apply decide_eq_false
        rintro rfl
        simp at hc
      · refine ⟨i + 1, _, _, by omega, rfl, tAg, by omega, ?_, hH.sub tSub⟩
        rw [e1] at hc
        simp only [Bool.not_eq_false', Bool.and_eq_true, decide_eq_true_eq] at hc
        exact fld_take x1.fields x2.fields i hlt (by omega) htk hc.1 hc.2
    · have k1 : decide ((i : Int) < (x1.fields.length : Int)) = false := by simpa using hlt
      have e : i = x1.fields.length := by omega
      subst e
      rw [List.take_length, hn, List.take_length] at htk
      repeat' (first | refine stp ?_ | (refine g_guard ?_; (first | refine r_guardD rfl rfl rfl (fun hg hp => ?_) (fun hg hp => ?_) | refine r_guard rfl rfl rfl (fun hg => ?_) (fun hg => ?_))) | (refine g_load ?_; (first | (refine p_loadRF hH rfl rfl (by omega) tO ?_) | (refine p_loadSF hH rfl rfl tO ?_) | (refine p_loadSB hH rfl rfl tO ?_) | (refine p_loadRB hH rfl rfl (by omega) tO ?_) | (refine p_loadS hH rfl tW ?_))) | (refine g_call ?_; (first | (refine p_appendL hH rfl rfl (Reads1.own (v := .nilIface) (Sel.mem tSel)) rfl rfl rfl tO rfl (fun vb vc w hH => ?_)))) | refine n_buildSlice1 hH tE rfl rfl rfl rfl tN (fun g w hg hH => ?_) | (refine r_toInt Tryz.underlying183 Tryz.underlying3 rfl (wrap_small (by omega)) ?_) | (refine p_toTextS hH rfl rfl tO rfl ?_) | (refine p_neF rfl rfl ?_) | (refine p_eqF rfl rfl ?_) | (refine g_store ?_; (first | refine n_store hH rfl tE rfl rfl tN (fun w hH => ?_) | refine n_storeA hH rfl rfl rfl rfl rfl tN (fun w hH => ?_))) | refine n_alloc hH tW (fun g w hg hH => ?_) | (refine g_box ?_; (first | refine p_boxA hH rfl (fun g w hg hH => ?_) | refine p_boxI hH rfl (fun g w hg hH => ?_) | refine p_boxL hH rfl (fun g w hg hH => ?_))) | (refine g_cond ?_; (first | refine c_condD rfl (fun hc hp => ?_) (fun hc hp => ?_) | refine c_cond rfl (fun hc => ?_) (fun hc => ?_))) | refine d_start (P := Tryz.prog) hH (fun hH => ?_) | (refine g_any ?_; (first | (apply d_done; exact rfl; kernel_rfl) | (apply d_next; exact rfl; exact rfl; exact rfl; kernel_rfl; (first | (simp only [falses, setB]; exact rfl) | exact rfl); exact hH.sub tSub; (intro w hH; (repeat (first | refine stpO ?_ | (refine g_load ?_; (first | (refine p_loadRF hH rfl rfl (by omega) tO ?_) | (refine p_loadSF hH rfl rfl tO ?_) | (refine p_loadS hH rfl tW ?_))) | (refine p_neF rfl rfl ?_) | (refine p_eqF rfl rfl ?_))); exact r_nil one_end)) | (apply d_split; exact rfl; exact rfl; exact rfl; exact rfl; exact rfl; intro hg; rotate_left; intro hg; rotate_right) | (apply d_all1; exact rfl; kernel_rfl; exact rfl; exact rfl) | (apply d_all2; exact rfl; kernel_rfl; exact rfl; exact rfl; exact rfl; exact rfl) | (apply d_all3; exact rfl; kernel_rfl; exact rfl; exact rfl; exact rfl; exact rfl; exact rfl; exact rfl))) | refine then_end (hH.sub tSub) ?_)
      all_goals refine e_end (res1 rfl tW) hH ⟨?_, rfl⟩ tTk
      all_goals (refine congrArg Value.bool ?_; clear hH; simp only [head_eq_iff, htk]; simp_all)
  · have k0 : decide ((x1.fields.length : Int) ≠ (x2.fields.length : Int)) = true := by simp; omega
    refine callsA_of (args := [_, _]) Tryz.func47 rfl Tryz.ntmps47 (by simp) ?_
    intro w0 hH
    repeat' (first | refine stp ?_ | (refine g_guard ?_; (first | refine r_guardD rfl rfl rfl (fun hg hp => ?_) (fun hg hp => ?_) | refine r_guard rfl rfl rfl (fun hg => ?_) (fun hg => ?_))) | (refine g_load ?_; (first | (refine p_loadRF hH rfl rfl (by omega) tO ?_) | (refine p_loadSF hH rfl rfl tO ?_) | (refine p_loadSB hH rfl rfl tO ?_) | (refine p_loadRB hH rfl rfl (by omega) tO ?_) | (refine p_loadS hH rfl tW ?_))) | (refine g_call ?_; (first | (refine p_appendL hH rfl rfl (Reads1.own (v := .nilIface) (Sel.mem tSel)) rfl rfl rfl tO rfl (fun vb vc w hH => ?_)))) | refine n_buildSlice1 hH tE rfl rfl rfl rfl tN (fun g w hg hH => ?_) | (refine r_toInt Tryz.underlying183 Tryz.underlying3 rfl (wrap_small (by omega)) ?_) | (refine p_toTextS hH rfl rfl tO rfl ?_) | (refine p_neF rfl rfl ?_) | (refine p_eqF rfl rfl ?_) | (refine g_store ?_; (first | refine n_store hH rfl tE rfl rfl tN (fun w hH => ?_) | refine n_storeA hH rfl rfl rfl rfl rfl tN (fun w hH => ?_))) | refine n_alloc hH tW (fun g w hg hH => ?_) | (refine g_box ?_; (first | refine p_boxA hH rfl (fun g w hg hH => ?_) | refine p_boxI hH rfl (fun g w hg hH => ?_) | refine p_boxL hH rfl (fun g w hg hH => ?_))) | (refine g_cond ?_; (first | refine c_condD rfl (fun hc hp => ?_) (fun hc hp => ?_) | refine c_cond rfl (fun hc => ?_) (fun hc => ?_))) | refine d_start (P := Tryz.prog) hH (fun hH => ?_) | (refine g_any ?_; (first | (apply d_done; exact rfl; kernel_rfl) | (apply d_next; exact rfl; exact rfl; exact rfl; kernel_rfl; (first | (simp only [falses, setB]; exact rfl) | exact rfl); exact hH.sub tSub; (intro w hH; (repeat (first | refine stpO ?_ | (refine g_load ?_; (first | (refine p_loadRF hH rfl rfl (by omega) tO ?_) | (refine p_loadSF hH rfl rfl tO ?_) | (refine p_loadS hH rfl tW ?_))) | (refine p_neF rfl rfl ?_) | (refine p_eqF rfl rfl ?_))); exact r_nil one_end)) | (apply d_split; exact rfl; exact rfl; exact rfl; exact rfl; exact rfl; intro hg; rotate_left; intro hg; rotate_right) | (apply d_all1; exact rfl; kernel_rfl; exact rfl; exact rfl) | (apply d_all2; exact rfl; kernel_rfl; exact rfl; exact rfl; exact rfl; exact rfl) | (apply d_all3; exact rfl; kernel_rfl; exact rfl; exact rfl; exact rfl; exact rfl; exact rfl; exact rfl))) | refine then_end (hH.sub tSub) ?_)
    all_goals refine e_end (res1 rfl tW) hH ⟨?_, rfl⟩ tTk
    all_goals (refine congrArg Value.bool ?_; symm; apply decide_eq_false; rintro rfl; exact hn rfl)

end Go.Proofs.YtiofekhdicfmoaaGreatDoor

namespace Go.Proofs.YtiofekhdicfmoaaGreatDoor
open Go Go.Hr
attribute [local irreducible] Go.wpList Go.Code.wp Go.Calls Go.Hr.CallsA Go.wpAnyH Go.callFunc Go.callMethod Go.Instr.typeAssert Go.Sem.run
set_option maxHeartbeats 4000000
set_option linter.all false

set_option maxRecDepth 8000
def verI (h : Hp.HeadP) : List UInt8 := [72,84,84,80,47,49,46] ++ Lib.itoa h.minor
def lineI (h : Hp.HeadP) : List UInt8 := if h.request then h.method ++ [32] ++ h.target ++ [32] ++ verI h ++ [13, 10] else verI h ++ [32] ++ Lib.itoa h.status ++ [32] ++ h.reason ++ [13, 10]
def textI (h : Hp.HeadP) : List UInt8 := lineI h ++ Hp.fieldsT h.fields ++ [13, 10]
theorem fieldsT_take (fs : List Hp.FieldP) (i : Nat) (hi : i < fs.length) : Hp.fieldsT (fs.take (i + 1)) = Hp.fieldsT (fs.take i) ++ ((fs.getD i default).name ++ [58, 32] ++ (fs.getD i default).value ++ [13, 10]) := by
  unfold Hp.fieldsT
  rw [List.take_succ_eq_append_getElem hi, List.flatMap_append]
  simp only [Hp.fieldT, Hp.crlf, List.getD, List.getElem?_eq_getElem hi, Option.getD_some, List.flatMap_cons, List.flatMap_nil, List.append_nil, List.append_assoc]
theorem fieldsT_len (fs : List Hp.FieldP) (i : Nat) : (Hp.fieldsT (fs.take i)).length ≤ (Hp.fieldsT fs).length := by
  have h := congrArg (fun l => (Hp.fieldsT l).length) (List.take_append_drop i fs)
  simp only [Hp.fieldsT, List.flatMap_append, List.length_append] at h ⊢
  omega
theorem parse_few (r : Bool) (b : List UInt8) : (Hp.parseP r b).1.fields.length ≤ 100 := by
  have := fit_feed b (Hp.newP r 65536) (fun _ => fit_new r 65536 (by omega)) (by simp [Hp.newP])
  unfold Hp.parseP
  obtain ⟨X, hX⟩ : ∃ X, Hp.feedP (Hp.newP r 65536) b = X := ⟨_, rfl⟩
  rw [hX] at this ⊢
  dsimp only
  split
  · simp
  · split
    · exact this
    · simp
theorem c15 (G : Glob) (h : Hp.HeadP) (ga : Option Addr) (gc : Nat) (hm : -9223372036854775808 ≤ h.minor ∧ h.minor ≤ 9223372036854775807) (hs : -9223372036854775808 ≤ h.status ∧ h.status ≤ 9223372036854775807)
    (hfl : h.fields.length ≤ 1099511627776) (hb : (textI h).length ≤ 1099511627776) :
    CallsA Tryz.prog 15 (List.toArray [headV h (slF h ga gc)]) (⟨ga, 2, h.fields.length, fldV h.fields, none⟩ :: GL G) [] (fun v H' => v = .tuple (List.toArray [.string ⟨(Hp.printP textI h).1.toArray⟩, .int .i64 ((Hp.printP textI h).2 : Int)]) ∧ H' = []) := by
  by_cases h100 : h.fields.length > 100
  · have k0 : decide ((100 : Int) < (h.fields.length : Int)) = true := by simp; omega
    have hp : Hp.printP textI h = ([], 4) := by unfold Hp.printP; rw [if_pos h100]
    rw [hp]
    refine callsA_of (args := [_]) Tryz.func15 rfl Tryz.ntmps15 (by simp) ?_
    intro w0 hH
    repeat' (first | refine stp ?_ | (refine g_guard ?_; (first | refine r_guardD rfl rfl rfl (fun hg hp => ?_) (fun hg hp => ?_) | refine r_guard rfl rfl rfl (fun hg => ?_) (fun hg => ?_))) | (refine g_load ?_; (first | (refine p_loadRF hH rfl rfl (by omega) tO ?_) | (refine p_loadSF hH rfl rfl tO ?_) | (refine p_loadSB hH rfl rfl tO ?_) | (refine p_loadRB hH rfl rfl (by omega) tO ?_) | (refine p_loadS hH rfl tW ?_))) | (refine g_call ?_; (first | (refine p_appendL hH rfl rfl (Reads1.own (v := .nilIface) (Sel.mem tSel)) rfl rfl rfl tO rfl (fun vb vc w hH => ?_)))) | refine n_buildSlice1 hH tE rfl rfl rfl rfl tN (fun g w hg hH => ?_) | (refine r_toInt Tryz.underlying183 Tryz.underlying3 rfl (wrap_small (by omega)) ?_) | (refine p_toTextS hH rfl rfl tO rfl ?_) | (refine p_neF rfl rfl ?_) | (refine p_eqF rfl rfl ?_) | (refine g_store ?_; (first | refine n_store hH rfl tE rfl rfl tN (fun w hH => ?_) | refine n_storeA hH rfl rfl rfl rfl rfl tN (fun w hH => ?_))) | refine n_alloc hH tW (fun g w hg hH => ?_) | (refine g_box ?_; (first | refine p_boxA hH rfl (fun g w hg hH => ?_) | refine p_boxI hH rfl (fun g w hg hH => ?_) | refine p_boxL hH rfl (fun g w hg hH => ?_))) | (refine g_cond ?_; (first | refine c_condD rfl (fun hc hp => ?_) (fun hc hp => ?_) | refine c_cond rfl (fun hc => ?_) (fun hc => ?_))) | refine d_start (P := Tryz.prog) hH (fun hH => ?_) | (refine g_any ?_; (first | (apply d_done; exact rfl; kernel_rfl) | (apply d_next; exact rfl; exact rfl; exact rfl; kernel_rfl; (first | (simp only [falses, setB]; exact rfl) | exact rfl); exact hH.sub tSub; (intro w hH; (repeat (first | refine stpO ?_ | (refine g_load ?_; (first | (refine p_loadRF hH rfl rfl (by omega) tO ?_) | (refine p_loadSF hH rfl rfl tO ?_) | (refine p_loadS hH rfl tW ?_))) | (refine p_neF rfl rfl ?_) | (refine p_eqF rfl rfl ?_))); exact r_nil one_end)) | (apply d_split; exact rfl; exact rfl; exact rfl; exact rfl; exact rfl; intro hg; rotate_left; intro hg; rotate_right) | (apply d_all1; exact rfl; kernel_rfl; exact rfl; exact rfl) | (apply d_all2; exact rfl; kernel_rfl; exact rfl; exact rfl; exact rfl; exact rfl) | (apply d_all3; exact rfl; kernel_rfl; exact rfl; exact rfl; exact rfl; exact rfl; exact rfl; exact rfl))) | refine then_end (hH.sub tSub) ?_)
    all_goals refine e_end (res2 rfl rfl rfl) hH ⟨rfl, rfl⟩ tTk
  · have k0 : decide ((100 : Int) < (h.fields.length : Int)) = false := by simp; omega
    have h43 := c43 G h.minor hm.1 hm.2
    have h43s := c43 G h.status hs.1 hs.2
    have hbt : (lineI h).length + (Hp.fieldsT h.fields).length + 2 ≤ 1099511627776 := by have := hb; simp only [textI, List.length_append, List.length_cons, List.length_nil] at this; omega
    have h44a : ∀ b, CallsA Tryz.prog 44 (List.toArray [bAt b, .string ⟨(lineI h).toArray⟩]) [] (bldO b (.pointer none) none 0 0 []) (fun u H' => ∃ B c', u = .tuple (List.toArray [.int .i64 ((lineI h).length : Int), .nilIface]) ∧ H' = bldO b (bAt b) B (lineI h).length c' (lineI h)) := fun b => by
      have := c44 b (.pointer none) (.inl rfl) none 0 [] (lineI h) (by simp; omega)
      simpa using this
    cases hr : h.request with
    | true =>
      have hline : lineI h = h.method ++ [32] ++ h.target ++ [32] ++ ([72,84,84,80,47,49,46] ++ Lib.itoa h.minor) ++ [13, 10] := by unfold lineI verI; rw [if_pos hr]
      have h44b : ∀ b, CallsA Tryz.prog 44 (List.toArray [bAt b, .string ⟨(h.method ++ [32] ++ h.target ++ [32] ++ ([72,84,84,80,47,49,46] ++ Lib.itoa h.minor) ++ [13, 10]).toArray⟩]) [] (bldO b (.pointer none) none 0 0 []) (fun u H' => ∃ B c', u = .tuple (List.toArray [.int .i64 ((lineI h).length : Int), .nilIface]) ∧ H' = bldO b (bAt b) B (lineI h).length c' (lineI h)) := by rw [← hline]; exact h44a
      have hlen : (lineI h).length = h.method.length + 1 + h.target.length + 1 + (7 + (Lib.itoa h.minor).length) + 2 := by rw [hline]; simp only [List.length_append, List.length_cons, List.length_nil]
      refine callsA_of (args := [_]) Tryz.func15 rfl Tryz.ntmps15 (by simp) ?_
      intro w0 hH
      repeat' (first | refine stp ?_ | (refine g_guard ?_; (first | refine r_guardD rfl rfl rfl (fun hg hp => ?_) (fun hg hp => ?_) | refine r_guard rfl rfl rfl (fun hg => ?_) (fun hg => ?_))) | (refine g_load ?_; (first | (refine p_loadRF hH rfl rfl (by omega) tO ?_) | (refine p_loadSF hH rfl rfl tO ?_) | (refine p_loadSB hH rfl rfl tO ?_) | (refine p_loadRB hH rfl rfl (by omega) tO ?_) | (refine p_loadS hH rfl tW ?_))) | (refine g_call ?_; (first | (refine k_call (g := 43) Tryz.func43 rfl rfl hH (EvL.cons (EvK.any rfl) EvL.nil) (h43) tTk (ReadsAll.skip ReadsAll.same) (fun v H1 w hT hH => ?_); obtain ⟨rfl, rfl⟩ := hT; simp only [List.nil_append, List.cons_append] at hH) | (refine p_appendL hH rfl rfl (Reads1.own (v := .nilIface) (Sel.mem tSel)) rfl rfl rfl tO rfl (fun vb vc w hH => ?_)))) | refine n_buildSlice1 hH tE rfl rfl rfl rfl tN (fun g w hg hH => ?_) | (refine r_toInt Tryz.underlying183 Tryz.underlying3 rfl (wrap_small (by omega)) ?_) | (refine p_toTextS hH rfl rfl tO rfl ?_) | (refine p_neF rfl rfl ?_) | (refine p_eqF rfl rfl ?_) | (refine g_store ?_; (first | refine n_store hH rfl tE rfl rfl tN (fun w hH => ?_) | refine n_storeA hH rfl rfl rfl rfl rfl tN (fun w hH => ?_))) | refine n_alloc hH tW (fun g w hg hH => ?_) | (refine g_box ?_; (first | refine p_boxA hH rfl (fun g w hg hH => ?_) | refine p_boxI hH rfl (fun g w hg hH => ?_) | refine p_boxL hH rfl (fun g w hg hH => ?_))) | (refine g_cond ?_; (first | refine c_condD rfl (fun hc hp => ?_) (fun hc hp => ?_) | refine c_cond rfl (fun hc => ?_) (fun hc => ?_))) | refine d_start (P := Tryz.prog) hH (fun hH => ?_) | (refine g_any ?_; (first | (apply d_done; exact rfl; kernel_rfl) | (apply d_next; exact rfl; exact rfl; exact rfl; kernel_rfl; (first | (simp only [falses, setB]; exact rfl) | exact rfl); exact hH.sub tSub; (intro w hH; (repeat (first | refine stpO ?_ | (refine g_load ?_; (first | (refine p_loadRF hH rfl rfl (by omega) tO ?_) | (refine p_loadSF hH rfl rfl tO ?_) | (refine p_loadS hH rfl tW ?_))) | (refine p_neF rfl rfl ?_) | (refine p_eqF rfl rfl ?_))); exact r_nil one_end)) | (apply d_split; exact rfl; exact rfl; exact rfl; exact rfl; exact rfl; intro hg; rotate_left; intro hg; rotate_right) | (apply d_all1; exact rfl; kernel_rfl; exact rfl; exact rfl) | (apply d_all2; exact rfl; kernel_rfl; exact rfl; exact rfl; exact rfl; exact rfl) | (apply d_all3; exact rfl; kernel_rfl; exact rfl; exact rfl; exact rfl; exact rfl; exact rfl; exact rfl))) | refine then_end (hH.sub tSub) ?_)
      rename_i g1 w1 hg1 hH1 w2 hH2
      clear hH1 hH2
      replace hH := hH.nil_ 5 1
      repeat' (first | refine stp ?_ | (refine g_guard ?_; (first | refine r_guardD rfl rfl rfl (fun hg hp => ?_) (fun hg hp => ?_) | refine r_guard rfl rfl rfl (fun hg => ?_) (fun hg => ?_))) | (refine g_load ?_; (first | (refine p_loadRF hH rfl rfl (by omega) tO ?_) | (refine p_loadSF hH rfl rfl tO ?_) | (refine p_loadSB hH rfl rfl tO ?_) | (refine p_loadRB hH rfl rfl (by omega) tO ?_) | (refine p_loadS hH rfl tW ?_))) | (refine g_call ?_; (first | (refine k_call (g := 44) Tryz.func44 rfl rfl hH (EvL.cons (EvK.any rfl) (EvL.cons (EvK.any rfl) EvL.nil)) (h44b _) tTk ReadsAll.nil (fun v H1 w hT hH => ?_); obtain ⟨B0, c0, rfl, rfl⟩ := hT; simp only [List.nil_append, List.cons_append] at hH) | (refine p_appendL hH rfl rfl (Reads1.own (v := .nilIface) (Sel.mem tSel)) rfl rfl rfl tO rfl (fun vb vc w hH => ?_)))) | refine n_buildSlice1 hH tE rfl rfl rfl rfl tN (fun g w hg hH => ?_) | (refine r_toInt Tryz.underlying183 Tryz.underlying3 rfl (wrap_small (by omega)) ?_) | (refine p_toTextS hH rfl rfl tO rfl ?_) | (refine p_neF rfl rfl ?_) | (refine p_eqF rfl rfl ?_) | (refine g_store ?_; (first | refine n_store hH rfl tE rfl rfl tN (fun w hH => ?_) | refine n_storeA hH rfl rfl rfl rfl rfl tN (fun w hH => ?_))) | refine n_alloc hH tW (fun g w hg hH => ?_) | (refine g_box ?_; (first | refine p_boxA hH rfl (fun g w hg hH => ?_) | refine p_boxI hH rfl (fun g w hg hH => ?_) | refine p_boxL hH rfl (fun g w hg hH => ?_))) | (refine g_cond ?_; (first | refine c_condD rfl (fun hc hp => ?_) (fun hc hp => ?_) | refine c_cond rfl (fun hc => ?_) (fun hc => ?_))) | refine d_start (P := Tryz.prog) hH (fun hH => ?_) | (refine g_any ?_; (first | (apply d_done; exact rfl; kernel_rfl) | (apply d_next; exact rfl; exact rfl; exact rfl; kernel_rfl; (first | (simp only [falses, setB]; exact rfl) | exact rfl); exact hH.sub tSub; (intro w hH; (repeat (first | refine stpO ?_ | (refine g_load ?_; (first | (refine p_loadRF hH rfl rfl (by omega) tO ?_) | (refine p_loadSF hH rfl rfl tO ?_) | (refine p_loadS hH rfl tW ?_))) | (refine p_neF rfl rfl ?_) | (refine p_eqF rfl rfl ?_))); exact r_nil one_end)) | (apply d_split; exact rfl; exact rfl; exact rfl; exact rfl; exact rfl; intro hg; rotate_left; intro hg; rotate_right) | (apply d_all1; exact rfl; kernel_rfl; exact rfl; exact rfl) | (apply d_all2; exact rfl; kernel_rfl; exact rfl; exact rfl; exact rfl; exact rfl) | (apply d_all3; exact rfl; kernel_rfl; exact rfl; exact rfl; exact rfl; exact rfl; exact rfl; exact rfl))) | refine then_end (hH.sub tSub) ?_)
      
      clear h43 h43s h44a h44b
      have hlt0 : (lineI h).length = (lineI h ++ Hp.fieldsT (h.fields.take 0)).length := by simp [Hp.fieldsT]
      have hpos : 0 < (lineI h).length := by omega
      generalize hL : lineI h = L at *
      refine c_loopS (fun x : Nat × Option Addr × Nat => [(1, bAt g1), (4, bAt g), (45, slF h ga gc), (46, .int .i64 (h.fields.length : Int)), (47, .int .i64 (x.1 : Int))])
        (fun x w => x.1 ≤ h.fields.length ∧ Holds w0 (bl []) w (⟨ga, 2, h.fields.length, fldV h.fields, none⟩ :: GL G) (bldO g (bAt g) x.2.1 (L ++ Hp.fieldsT (h.fields.take x.1)).length x.2.2 (L ++ Hp.fieldsT (h.fields.take x.1)) ++ [.pt g1 24 [.bool h.request, .string ⟨h.method.toArray⟩, .string ⟨h.target.toArray⟩, .int .i64 h.minor, .int .i64 h.status, .string ⟨h.reason.toArray⟩, slF h ga gc]])) (fun x => h.fields.length - x.1) (0, B0, c0) tAg ⟨by omega, by simpa [Hp.fieldsT] using hH.sub tSub⟩ (fun x f w hI => ?_)
      clear hH
      obtain ⟨i, B, c⟩ := x
      obtain ⟨hi, hH⟩ := hI
      simp only [List.cons_append, List.nil_append] at hi hH
      dsimp only
      by_cases hlt : i < h.fields.length
      · have k1 : decide ((i : Int) < (h.fields.length : Int)) = true := by simpa using hlt
        obtain ⟨ab, hab, _⟩ := (hH.ro _ (List.mem_cons_self ..)).1.2 (show 0 < h.fields.length by omega)
        simp only at hab
        subst hab
        have e1 : ((i : Int)).toNat = i := by omega
        have f1 := fieldsT_len h.fields (i + 1)
        rw [fieldsT_take h.fields i hlt] at f1
        simp only [List.length_append, List.length_cons, List.length_nil] at f1
        have f2 : (Hp.fieldsT (List.take i h.fields)).length + ((h.fields.getD (i : Int).toNat default).name.length + 2 + (h.fields.getD (i : Int).toNat default).value.length + 2) ≤ (Hp.fieldsT h.fields).length := by rw [e1]; omega
        have h44 := c44 g (bAt g) (.inr rfl) B c (L ++ Hp.fieldsT (h.fields.take i)) ((h.fields.getD (i : Int).toNat default).name ++ [58, 32] ++ (h.fields.getD (i : Int).toNat default).value ++ [13, 10]) (by simp only [List.length_append, List.length_cons, List.length_nil]; omega)
        repeat' (first | refine stp ?_ | (refine g_guard ?_; (first | refine r_guardD rfl rfl rfl (fun hg hp => ?_) (fun hg hp => ?_) | refine r_guard rfl rfl rfl (fun hg => ?_) (fun hg => ?_))) | (refine g_load ?_; (first | (refine p_loadRF hH rfl rfl (by omega) tO ?_) | (refine p_loadSF hH rfl rfl tO ?_) | (refine p_loadSB hH rfl rfl tO ?_) | (refine p_loadRB hH rfl rfl (by omega) tO ?_) | (refine p_loadS hH rfl tW ?_))) | (refine g_call ?_; (first | (refine k_call (g := 44) Tryz.func44 rfl rfl hH (EvL.cons (EvK.any rfl) (EvL.cons (EvK.any rfl) EvL.nil)) (h44) tTk ReadsAll.nil (fun v H1 w hT hH => ?_); obtain ⟨B2, c2, rfl, rfl⟩ := hT; simp only [List.nil_append, List.cons_append] at hH) | (refine p_appendL hH rfl rfl (Reads1.own (v := .nilIface) (Sel.mem tSel)) rfl rfl rfl tO rfl (fun vb vc w hH => ?_)))) | refine n_buildSlice1 hH tE rfl rfl rfl rfl tN (fun g w hg hH => ?_) | (refine r_toInt Tryz.underlying183 Tryz.underlying3 rfl (wrap_small (by omega)) ?_) | (refine p_toTextS hH rfl rfl tO rfl ?_) | (refine p_neF rfl rfl ?_) | (refine p_eqF rfl rfl ?_) | (refine g_store ?_; (first | refine n_store hH rfl tE rfl rfl tN (fun w hH => ?_) | refine n_storeA hH rfl rfl rfl rfl rfl tN (fun w hH => ?_))) | refine n_alloc hH tW (fun g w hg hH => ?_) | (refine g_box ?_; (first | refine p_boxA hH rfl (fun g w hg hH => ?_) | refine p_boxI hH rfl (fun g w hg hH => ?_) | refine p_boxL hH rfl (fun g w hg hH => ?_))) | (refine g_cond ?_; (first | refine c_condD rfl (fun hc hp => ?_) (fun hc hp => ?_) | refine c_cond rfl (fun hc => ?_) (fun hc => ?_))) | refine d_start (P := Tryz.prog) hH (fun hH => ?_) | (refine g_any ?_; (first | (apply d_done; exact rfl; kernel_rfl) | (apply d_next; exact rfl; exact rfl; exact rfl; kernel_rfl; (first | (simp only [falses, setB]; exact rfl) | exact rfl); exact hH.sub tSub; (intro w hH; (repeat (first | refine stpO ?_ | (refine g_load ?_; (first | (refine p_loadRF hH rfl rfl (by omega) tO ?_) | (refine p_loadSF hH rfl rfl tO ?_) | (refine p_loadS hH rfl tW ?_))) | (refine p_neF rfl rfl ?_) | (refine p_eqF rfl rfl ?_))); exact r_nil one_end)) | (apply d_split; exact rfl; exact rfl; exact rfl; exact rfl; exact rfl; intro hg; rotate_left; intro hg; rotate_right) | (apply d_all1; exact rfl; kernel_rfl; exact rfl; exact rfl) | (apply d_all2; exact rfl; kernel_rfl; exact rfl; exact rfl; exact rfl; exact rfl) | (apply d_all3; exact rfl; kernel_rfl; exact rfl; exact rfl; exact rfl; exact rfl; exact rfl; exact rfl))) | refine then_end (hH.sub tSub) ?_)
        rw [e1, List.append_assoc, ← fieldsT_take h.fields i hlt] at hH
        all_goals exact ⟨(i + 1, B2, c2), _, _, by simp; omega, rfl, tAg, by simp; omega, hH.sub tSub⟩
      · have k1 : decide ((i : Int) < (h.fields.length : Int)) = false := by simpa using hlt
        have e : i = h.fields.length := by omega
        subst e
        rw [List.take_length] at hH
        have h44 := c44 g (bAt g) (.inr rfl) B c (L ++ Hp.fieldsT h.fields) [13, 10] (by simp only [List.length_append, List.length_cons, List.length_nil]; omega)
        repeat' (first | refine stp ?_ | (refine g_guard ?_; (first | refine r_guardD rfl rfl rfl (fun hg hp => ?_) (fun hg hp => ?_) | refine r_guard rfl rfl rfl (fun hg => ?_) (fun hg => ?_))) | (refine g_load ?_; (first | (refine p_loadRF hH rfl rfl (by omega) tO ?_) | (refine p_loadSF hH rfl rfl tO ?_) | (refine p_loadSB hH rfl rfl tO ?_) | (refine p_loadRB hH rfl rfl (by omega) tO ?_) | (refine p_loadS hH rfl tW ?_))) | (refine g_call ?_; (first | (refine k_call (g := 44) Tryz.func44 rfl rfl hH (EvL.cons (EvK.any rfl) (EvL.cons (EvK.any rfl) EvL.nil)) (h44) tTk ReadsAll.nil (fun v H1 w hT hH => ?_); obtain ⟨B2, c2, rfl, rfl⟩ := hT; simp only [List.nil_append, List.cons_append] at hH) | (refine p_appendL hH rfl rfl (Reads1.own (v := .nilIface) (Sel.mem tSel)) rfl rfl rfl tO rfl (fun vb vc w hH => ?_)))) | refine n_buildSlice1 hH tE rfl rfl rfl rfl tN (fun g w hg hH => ?_) | (refine r_toInt Tryz.underlying183 Tryz.underlying3 rfl (wrap_small (by omega)) ?_) | (refine p_toTextS hH rfl rfl tO rfl ?_) | (refine p_neF rfl rfl ?_) | (refine p_eqF rfl rfl ?_) | (refine g_store ?_; (first | refine n_store hH rfl tE rfl rfl tN (fun w hH => ?_) | refine n_storeA hH rfl rfl rfl rfl rfl tN (fun w hH => ?_))) | refine n_alloc hH tW (fun g w hg hH => ?_) | (refine g_box ?_; (first | refine p_boxA hH rfl (fun g w hg hH => ?_) | refine p_boxI hH rfl (fun g w hg hH => ?_) | refine p_boxL hH rfl (fun g w hg hH => ?_))) | (refine g_cond ?_; (first | refine c_condD rfl (fun hc hp => ?_) (fun hc hp => ?_) | refine c_cond rfl (fun hc => ?_) (fun hc => ?_))))
        have hT : L ++ Hp.fieldsT h.fields ++ [13, 10] = textI h := by rw [← hL]; rfl
        rw [hT] at hH
        have hTpos : 0 < (textI h).length := by rw [← hT]; simp only [List.length_append, List.length_cons, List.length_nil]; omega
        have hTne : textI h ≠ [] := List.length_pos_iff.1 hTpos
        clear h44
        obtain ⟨gb, cb, hBv, hcb, _⟩ := hH.form (v := .slice B2 (textI h).length c2) (Sel.there (Sel.here _ _)) hTpos
        injection hBv with q1 q2 q3
        subst q1 q3
        have h45 := c45 g (bAt g) gb c2 (textI h) hTne hb hcb
        have h45z := c45z g (bAt g) gb c2 (textI h) hTne hb hcb
        have hpp : Hp.printP textI h = if Hp.parseP h.request (textI h) = (h, (textI h).length, 0) then (textI h, 0) else ([], 4) := by unfold Hp.printP; rw [if_neg h100]
        have hx100 := parse_few h.request (textI h)
        obtain ⟨X, hX⟩ : ∃ X, Hp.parseP h.request (textI h) = X := ⟨_, rfl⟩
        obtain ⟨x, nn, ee⟩ := X
        rw [hX] at hpp hx100
        rw [hpp]
        clear hpp
        dsimp only at hx100
        have h18 : ∀ A bc, CallsA Tryz.prog 18 (List.toArray [.bool h.request, .slice A (textI h).length bc]) (⟨A, 1, (textI h).length, bytesV (textI h), none⟩ :: GL G) [] (fun v H' => ∃ fa fc, v = .tuple (List.toArray [headV x (slF x fa fc), .int .i64 (nn : Int), .int .i64 (ee : Int)]) ∧ H' = [fldsO x (slF x fa fc)]) := fun A bc => by
          have := c18 G h.request A bc (textI h) hb
          rw [hX] at this
          exact this
        have h47 := fun fa fc => c47 x h fa ga fc gc (by omega)
        repeat' (first | refine stp ?_ | (refine g_guard ?_; (first | refine r_guardD rfl rfl rfl (fun hg hp => ?_) (fun hg hp => ?_) | refine r_guard rfl rfl rfl (fun hg => ?_) (fun hg => ?_))) | (refine g_load ?_; (first | (refine p_loadRF hH rfl rfl (by omega) tO ?_) | (refine p_loadSF hH rfl rfl tO ?_) | (refine p_loadSB hH rfl rfl tO ?_) | (refine p_loadRB hH rfl rfl (by omega) tO ?_) | (refine p_loadS hH rfl tW ?_))) | (refine g_call ?_; (first | (refine k_call (g := 45) Tryz.func45 rfl rfl hH (EvL.cons (EvK.any rfl) EvL.nil) (h45) tTk ReadsAll.nil (fun v H1 w hT hH => ?_); obtain ⟨rfl, rfl⟩ := hT; simp only [List.nil_append, List.cons_append] at hH) | (refine k_call (g := 45) Tryz.func45 rfl rfl hH (EvL.cons (EvK.any rfl) EvL.nil) (h45z) tTk ReadsAll.nil (fun v H1 w hT hH => ?_); obtain ⟨rfl, rfl⟩ := hT; simp only [List.nil_append, List.cons_append] at hH) | (refine k_call (g := 18) Tryz.func18 rfl rfl hH (EvL.cons (EvK.any rfl) (EvL.cons (EvK.any rfl) EvL.nil)) (h18 _ _) tTk (ReadsAll.cons (Reads1.fz (Sel.mem tSel) (by simp) (fun _ _ h => h)) (ReadsAll.skip ReadsAll.same)) (fun v H1 w hT hH => ?_); obtain ⟨xa, xc, rfl, rfl⟩ := hT; simp only [List.nil_append, List.cons_append] at hH) | (refine k_call (g := 46) Tryz.func46 rfl rfl hH (EvL.cons (EvK.any rfl) EvL.nil) (c46 _ _ _ _ _) tTk ReadsAll.nil (fun v H1 w hT hH => ?_); obtain ⟨rfl, rfl⟩ := hT; simp only [List.nil_append, List.cons_append] at hH) | (refine k_call (g := 47) Tryz.func47 rfl rfl hH (EvL.cons (EvK.any rfl) (EvL.cons (EvK.any rfl) EvL.nil)) (h47 _ _) tTk (ReadsAll.cons (.own (v := .nilIface) (Sel.mem tSel)) (ReadsAll.cons (.ro (by simp)) .nil)) (fun v H1 w hT hH => ?_); obtain ⟨rfl, rfl⟩ := hT; simp only [List.nil_append, List.cons_append] at hH) | (refine p_appendL hH rfl rfl (Reads1.own (v := .nilIface) (Sel.mem tSel)) rfl rfl rfl tO rfl (fun vb vc w hH => ?_)))) | refine n_buildSlice1 hH tE rfl rfl rfl rfl tN (fun g w hg hH => ?_) | (refine r_toInt Tryz.underlying183 Tryz.underlying3 rfl (wrap_small (by omega)) ?_) | (refine p_toTextS hH rfl rfl tO rfl ?_) | (refine p_neF rfl rfl ?_) | (refine p_eqF rfl rfl ?_) | (refine p_toBytes hH rfl (fun gz cz w hcz hH => ?_)) | (refine g_store ?_; (first | refine n_store hH rfl tE rfl rfl tN (fun w hH => ?_) | refine n_storeA hH rfl rfl rfl rfl rfl tN (fun w hH => ?_))) | refine n_alloc hH tW (fun g w hg hH => ?_) | (refine g_box ?_; (first | refine p_boxA hH rfl (fun g w hg hH => ?_) | refine p_boxI hH rfl (fun g w hg hH => ?_) | refine p_boxL hH rfl (fun g w hg hH => ?_))) | (refine g_cond ?_; (first | refine c_condD rfl (fun hc hp => ?_) (fun hc hp => ?_) | refine c_cond rfl (fun hc => ?_) (fun hc => ?_))) | refine d_startS (P := Tryz.prog) hH (Sub.skip (Sub.skip (Sub.keep Sub.nil))) (fun hH => ?_) | refine d_start (P := Tryz.prog) hH (fun hH => ?_) | (refine g_any ?_; (first | (apply d_done; exact rfl; kernel_rfl) | (apply d_next; exact rfl; exact rfl; exact rfl; kernel_rfl; (first | (simp only [falses, setB]; exact rfl) | exact rfl); exact hH.sub tSub; (intro w hH; (repeat (first | refine stpO ?_ | (refine g_load ?_; (first | (refine p_loadRF hH rfl rfl (by omega) tO ?_) | (refine p_loadSF hH rfl rfl tO ?_) | (refine p_loadS hH rfl tW ?_))) | (refine p_neF rfl rfl ?_) | (refine p_eqF rfl rfl ?_))); exact r_nil one_end)) | (apply d_split; exact rfl; exact rfl; exact rfl; exact rfl; exact rfl; intro hg; rotate_left; intro hg; rotate_right) | (apply d_all1; exact rfl; kernel_rfl; exact rfl; exact rfl) | (apply d_all2; exact rfl; kernel_rfl; exact rfl; exact rfl; exact rfl; exact rfl) | (apply d_all3; exact rfl; kernel_rfl; exact rfl; exact rfl; exact rfl; exact rfl; exact rfl; exact rfl))) | refine then_end (hH.sub tSub) ?_)
        all_goals first
          | (rw [if_neg (fun e => by simp only [Prod.mk.injEq] at e; obtain ⟨e1, e2, e3⟩ := e; first | (rw [e3] at hp; exact hp rfl) | (rw [e2] at hp; exact hp rfl) | (rw [e1] at hc; simp at hc))]; exact e_end (H1 := []) (res2 rfl rfl rfl) hH ⟨rfl, rfl⟩ tTk)
          | (have q1 : x = h := by simpa using hc
             have q2 : nn = (textI h).length := by omega
             have q3 : ee = 0 := by omega
             rw [if_pos (by rw [q1, q2, q3])]; exact e_end (H1 := []) (res2 rfl rfl rfl) hH ⟨rfl, rfl⟩ tTk)

    | false =>
      have hline : lineI h = ([72,84,84,80,47,49,46] ++ Lib.itoa h.minor) ++ [32] ++ Lib.itoa h.status ++ [32] ++ h.reason ++ [13, 10] := by unfold lineI verI; rw [if_neg (by rw [hr]; decide)]
      have h44b : ∀ b, CallsA Tryz.prog 44 (List.toArray [bAt b, .string ⟨(([72,84,84,80,47,49,46] ++ Lib.itoa h.minor) ++ [32] ++ Lib.itoa h.status ++ [32] ++ h.reason ++ [13, 10]).toArray⟩]) [] (bldO b (.pointer none) none 0 0 []) (fun u H' => ∃ B c', u = .tuple (List.toArray [.int .i64 ((lineI h).length : Int), .nilIface]) ∧ H' = bldO b (bAt b) B (lineI h).length c' (lineI h)) := by rw [← hline]; exact h44a
      have hlen : (lineI h).length = (7 + (Lib.itoa h.minor).length) + 1 + (Lib.itoa h.status).length + 1 + h.reason.length + 2 := by rw [hline]; simp only [List.length_append, List.length_cons, List.length_nil]
      refine callsA_of (args := [_]) Tryz.func15 rfl Tryz.ntmps15 (by simp) ?_
      intro w0 hH
      repeat' (first | refine stp ?_ | (refine g_guard ?_; (first | refine r_guardD rfl rfl rfl (fun hg hp => ?_) (fun hg hp => ?_) | refine r_guard rfl rfl rfl (fun hg => ?_) (fun hg => ?_))) | (refine g_load ?_; (first | (refine p_loadRF hH rfl rfl (by omega) tO ?_) | (refine p_loadSF hH rfl rfl tO ?_) | (refine p_loadSB hH rfl rfl tO ?_) | (refine p_loadRB hH rfl rfl (by omega) tO ?_) | (refine p_loadS hH rfl tW ?_))) | (refine g_call ?_; (first | (refine k_call (g := 43) Tryz.func43 rfl rfl hH (EvL.cons (EvK.any rfl) EvL.nil) (h43) tTk (ReadsAll.skip ReadsAll.same) (fun v H1 w hT hH => ?_); obtain ⟨rfl, rfl⟩ := hT; simp only [List.nil_append, List.cons_append] at hH) | (refine p_appendL hH rfl rfl (Reads1.own (v := .nilIface) (Sel.mem tSel)) rfl rfl rfl tO rfl (fun vb vc w hH => ?_)))) | refine n_buildSlice1 hH tE rfl rfl rfl rfl tN (fun g w hg hH => ?_) | (refine r_toInt Tryz.underlying183 Tryz.underlying3 rfl (wrap_small (by omega)) ?_) | (refine p_toTextS hH rfl rfl tO rfl ?_) | (refine p_neF rfl rfl ?_) | (refine p_eqF rfl rfl ?_) | (refine g_store ?_; (first | refine n_store hH rfl tE rfl rfl tN (fun w hH => ?_) | refine n_storeA hH rfl rfl rfl rfl rfl tN (fun w hH => ?_))) | refine n_alloc hH tW (fun g w hg hH => ?_) | (refine g_box ?_; (first | refine p_boxA hH rfl (fun g w hg hH => ?_) | refine p_boxI hH rfl (fun g w hg hH => ?_) | refine p_boxL hH rfl (fun g w hg hH => ?_))) | (refine g_cond ?_; (first | refine c_condD rfl (fun hc hp => ?_) (fun hc hp => ?_) | refine c_cond rfl (fun hc => ?_) (fun hc => ?_))))
      rename_i g1 w1 hg1 hH1 w2 hH2
      clear hH1 hH2
      replace hH := hH.nil_ 5 1
      repeat' (first | refine stp ?_ | (refine g_guard ?_; (first | refine r_guardD rfl rfl rfl (fun hg hp => ?_) (fun hg hp => ?_) | refine r_guard rfl rfl rfl (fun hg => ?_) (fun hg => ?_))) | (refine g_load ?_; (first | (refine p_loadRF hH rfl rfl (by omega) tO ?_) | (refine p_loadSF hH rfl rfl tO ?_) | (refine p_loadSB hH rfl rfl tO ?_) | (refine p_loadRB hH rfl rfl (by omega) tO ?_) | (refine p_loadS hH rfl tW ?_))) | (refine g_call ?_; (first | (refine k_call (g := 43) Tryz.func43 rfl rfl hH (EvL.cons (EvK.any rfl) EvL.nil) (h43s) tTk (ReadsAll.skip ReadsAll.same) (fun v H1 w hT hH => ?_); obtain ⟨rfl, rfl⟩ := hT; simp only [List.nil_append, List.cons_append] at hH) | (refine k_call (g := 44) Tryz.func44 rfl rfl hH (EvL.cons (EvK.any rfl) (EvL.cons (EvK.any rfl) EvL.nil)) (h44b _) tTk ReadsAll.nil (fun v H1 w hT hH => ?_); obtain ⟨B0, c0, rfl, rfl⟩ := hT; simp only [List.nil_append, List.cons_append] at hH) | (refine p_appendL hH rfl rfl (Reads1.own (v := .nilIface) (Sel.mem tSel)) rfl rfl rfl tO rfl (fun vb vc w hH => ?_)))) | refine n_buildSlice1 hH tE rfl rfl rfl rfl tN (fun g w hg hH => ?_) | (refine r_toInt Tryz.underlying183 Tryz.underlying3 rfl (wrap_small (by omega)) ?_) | (refine p_toTextS hH rfl rfl tO rfl ?_) | (refine p_neF rfl rfl ?_) | (refine p_eqF rfl rfl ?_) | (refine g_store ?_; (first | refine n_store hH rfl tE rfl rfl tN (fun w hH => ?_) | refine n_storeA hH rfl rfl rfl rfl rfl tN (fun w hH => ?_))) | refine n_alloc hH tW (fun g w hg hH => ?_) | (refine g_box ?_; (first | refine p_boxA hH rfl (fun g w hg hH => ?_) | refine p_boxI hH rfl (fun g w hg hH => ?_) | refine p_boxL hH rfl (fun g w hg hH => ?_))) | (refine g_cond ?_; (first | refine c_condD rfl (fun hc hp => ?_) (fun hc hp => ?_) | refine c_cond rfl (fun hc => ?_) (fun hc => ?_))) | refine d_startS (P := Tryz.prog) hH (Sub.skip (Sub.skip (Sub.keep Sub.nil))) (fun hH => ?_) | refine d_start (P := Tryz.prog) hH (fun hH => ?_) | (refine g_any ?_; (first | (apply d_done; exact rfl; kernel_rfl) | (apply d_next; exact rfl; exact rfl; exact rfl; kernel_rfl; (first | (simp only [falses, setB]; exact rfl) | exact rfl); exact hH.sub tSub; (intro w hH; (repeat (first | refine stpO ?_ | (refine g_load ?_; (first | (refine p_loadRF hH rfl rfl (by omega) tO ?_) | (refine p_loadSF hH rfl rfl tO ?_) | (refine p_loadS hH rfl tW ?_))) | (refine p_neF rfl rfl ?_) | (refine p_eqF rfl rfl ?_))); exact r_nil one_end)) | (apply d_split; exact rfl; exact rfl; exact rfl; exact rfl; exact rfl; intro hg; rotate_left; intro hg; rotate_right) | (apply d_all1; exact rfl; kernel_rfl; exact rfl; exact rfl) | (apply d_all2; exact rfl; kernel_rfl; exact rfl; exact rfl; exact rfl; exact rfl) | (apply d_all3; exact rfl; kernel_rfl; exact rfl; exact rfl; exact rfl; exact rfl; exact rfl; exact rfl))) | refine then_end (hH.sub tSub) ?_)
      
      clear h43 h43s h44a h44b
      have hlt0 : (lineI h).length = (lineI h ++ Hp.fieldsT (h.fields.take 0)).length := by simp [Hp.fieldsT]
      have hpos : 0 < (lineI h).length := by omega
      generalize hL : lineI h = L at *
      refine c_loopS (fun x : Nat × Option Addr × Nat => [(1, bAt g1), (4, bAt g), (45, slF h ga gc), (46, .int .i64 (h.fields.length : Int)), (47, .int .i64 (x.1 : Int))])
        (fun x w => x.1 ≤ h.fields.length ∧ Holds w0 (bl []) w (⟨ga, 2, h.fields.length, fldV h.fields, none⟩ :: GL G) (bldO g (bAt g) x.2.1 (L ++ Hp.fieldsT (h.fields.take x.1)).length x.2.2 (L ++ Hp.fieldsT (h.fields.take x.1)) ++ [.pt g1 24 [.bool h.request, .string ⟨h.method.toArray⟩, .string ⟨h.target.toArray⟩, .int .i64 h.minor, .int .i64 h.status, .string ⟨h.reason.toArray⟩, slF h ga gc]])) (fun x => h.fields.length - x.1) (0, B0, c0) tAg ⟨by omega, by simpa [Hp.fieldsT] using hH.sub tSub⟩ (fun x f w hI => ?_)
      clear hH
      obtain ⟨i, B, c⟩ := x
      obtain ⟨hi, hH⟩ := hI
      simp only [List.cons_append, List.nil_append] at hi hH
      dsimp only
      by_cases hlt : i < h.fields.length
      · have k1 : decide ((i : Int) < (h.fields.length : Int)) = true := by simpa using hlt
        obtain ⟨ab, hab, _⟩ := (hH.ro _ (List.mem_cons_self ..)).1.2 (show 0 < h.fields.length by omega)
        simp only at hab
        subst hab
        have e1 : ((i : Int)).toNat = i := by omega
        have f1 := fieldsT_len h.fields (i + 1)
        rw [fieldsT_take h.fields i hlt] at f1
        simp only [List.length_append, List.length_cons, List.length_nil] at f1
        have f2 : (Hp.fieldsT (List.take i h.fields)).length + ((h.fields.getD (i : Int).toNat default).name.length + 2 + (h.fields.getD (i : Int).toNat default).value.length + 2) ≤ (Hp.fieldsT h.fields).length := by rw [e1]; omega
        have h44 := c44 g (bAt g) (.inr rfl) B c (L ++ Hp.fieldsT (h.fields.take i)) ((h.fields.getD (i : Int).toNat default).name ++ [58, 32] ++ (h.fields.getD (i : Int).toNat default).value ++ [13, 10]) (by simp only [List.length_append, List.length_cons, List.length_nil]; omega)
        repeat' (first | refine stp ?_ | (refine g_guard ?_; (first | refine r_guardD rfl rfl rfl (fun hg hp => ?_) (fun hg hp => ?_) | refine r_guard rfl rfl rfl (fun hg => ?_) (fun hg => ?_))) | (refine g_load ?_; (first | (refine p_loadRF hH rfl rfl (by omega) tO ?_) | (refine p_loadSF hH rfl rfl tO ?_) | (refine p_loadSB hH rfl rfl tO ?_) | (refine p_loadRB hH rfl rfl (by omega) tO ?_) | (refine p_loadS hH rfl tW ?_))) | (refine g_call ?_; (first | (refine k_call (g := 44) Tryz.func44 rfl rfl hH (EvL.cons (EvK.any rfl) (EvL.cons (EvK.any rfl) EvL.nil)) (h44) tTk ReadsAll.nil (fun v H1 w hT hH => ?_); obtain ⟨B2, c2, rfl, rfl⟩ := hT; simp only [List.nil_append, List.cons_append] at hH) | (refine p_appendL hH rfl rfl (Reads1.own (v := .nilIface) (Sel.mem tSel)) rfl rfl rfl tO rfl (fun vb vc w hH => ?_)))) | refine n_buildSlice1 hH tE rfl rfl rfl rfl tN (fun g w hg hH => ?_) | (refine r_toInt Tryz.underlying183 Tryz.underlying3 rfl (wrap_small (by omega)) ?_) | (refine p_toTextS hH rfl rfl tO rfl ?_) | (refine p_neF rfl rfl ?_) | (refine p_eqF rfl rfl ?_) | (refine g_store ?_; (first | refine n_store hH rfl tE rfl rfl tN (fun w hH => ?_) | refine n_storeA hH rfl rfl rfl rfl rfl tN (fun w hH => ?_))) | refine n_alloc hH tW (fun g w hg hH => ?_) | (refine g_box ?_; (first | refine p_boxA hH rfl (fun g w hg hH => ?_) | refine p_boxI hH rfl (fun g w hg hH => ?_) | refine p_boxL hH rfl (fun g w hg hH => ?_))) | (refine g_cond ?_; (first | refine c_condD rfl (fun hc hp => ?_) (fun hc hp => ?_) | refine c_cond rfl (fun hc => ?_) (fun hc => ?_))) | refine d_start (P := Tryz.prog) hH (fun hH => ?_) | (refine g_any ?_; (first | (apply d_done; exact rfl; kernel_rfl) | (apply d_next; exact rfl; exact rfl; exact rfl; kernel_rfl; (first | (simp only [falses, setB]; exact rfl) | exact rfl); exact hH.sub tSub; (intro w hH; (repeat (first | refine stpO ?_ | (refine g_load ?_; (first | (refine p_loadRF hH rfl rfl (by omega) tO ?_) | (refine p_loadSF hH rfl rfl tO ?_) | (refine p_loadS hH rfl tW ?_))) | (refine p_neF rfl rfl ?_) | (refine p_eqF rfl rfl ?_))); exact r_nil one_end)) | (apply d_split; exact rfl; exact rfl; exact rfl; exact rfl; exact rfl; intro hg; rotate_left; intro hg; rotate_right) | (apply d_all1; exact rfl; kernel_rfl; exact rfl; exact rfl) | (apply d_all2; exact rfl; kernel_rfl; exact rfl; exact rfl; exact rfl; exact rfl) | (apply d_all3; exact rfl; kernel_rfl; exact rfl; exact rfl; exact rfl; exact rfl; exact rfl; exact rfl))) | refine then_end (hH.sub tSub) ?_)
        rw [e1, List.append_assoc, ← fieldsT_take h.fields i hlt] at hH
        all_goals exact ⟨(i + 1, B2, c2), _, _, by simp; omega, rfl, tAg, by simp; omega, hH.sub tSub⟩
      · have k1 : decide ((i : Int) < (h.fields.length : Int)) = false := by simpa using hlt
        have e : i = h.fields.length := by omega
        subst e
        rw [List.take_length] at hH
        have h44 := c44 g (bAt g) (.inr rfl) B c (L ++ Hp.fieldsT h.fields) [13, 10] (by simp only [List.length_append, List.length_cons, List.length_nil]; omega)
        repeat' (first | refine stp ?_ | (refine g_guard ?_; (first | refine r_guardD rfl rfl rfl (fun hg hp => ?_) (fun hg hp => ?_) | refine r_guard rfl rfl rfl (fun hg => ?_) (fun hg => ?_))) | (refine g_load ?_; (first | (refine p_loadRF hH rfl rfl (by omega) tO ?_) | (refine p_loadSF hH rfl rfl tO ?_) | (refine p_loadSB hH rfl rfl tO ?_) | (refine p_loadRB hH rfl rfl (by omega) tO ?_) | (refine p_loadS hH rfl tW ?_))) | (refine g_call ?_; (first | (refine k_call (g := 44) Tryz.func44 rfl rfl hH (EvL.cons (EvK.any rfl) (EvL.cons (EvK.any rfl) EvL.nil)) (h44) tTk ReadsAll.nil (fun v H1 w hT hH => ?_); obtain ⟨B2, c2, rfl, rfl⟩ := hT; simp only [List.nil_append, List.cons_append] at hH) | (refine p_appendL hH rfl rfl (Reads1.own (v := .nilIface) (Sel.mem tSel)) rfl rfl rfl tO rfl (fun vb vc w hH => ?_)))) | refine n_buildSlice1 hH tE rfl rfl rfl rfl tN (fun g w hg hH => ?_) | (refine r_toInt Tryz.underlying183 Tryz.underlying3 rfl (wrap_small (by omega)) ?_) | (refine p_toTextS hH rfl rfl tO rfl ?_) | (refine p_neF rfl rfl ?_) | (refine p_eqF rfl rfl ?_) | (refine g_store ?_; (first | refine n_store hH rfl tE rfl rfl tN (fun w hH => ?_) | refine n_storeA hH rfl rfl rfl rfl rfl tN (fun w hH => ?_))) | refine n_alloc hH tW (fun g w hg hH => ?_) | (refine g_box ?_; (first | refine p_boxA hH rfl (fun g w hg hH => ?_) | refine p_boxI hH rfl (fun g w hg hH => ?_) | refine p_boxL hH rfl (fun g w hg hH => ?_))) | (refine g_cond ?_; (first | refine c_condD rfl (fun hc hp => ?_) (fun hc hp => ?_) | refine c_cond rfl (fun hc => ?_) (fun hc => ?_))))
        have hT : L ++ Hp.fieldsT h.fields ++ [13, 10] = textI h := by rw [← hL]; rfl
        rw [hT] at hH
        have hTpos : 0 < (textI h).length := by rw [← hT]; simp only [List.length_append, List.length_cons, List.length_nil]; omega
        have hTne : textI h ≠ [] := List.length_pos_iff.1 hTpos
        clear h44
        obtain ⟨gb, cb, hBv, hcb, _⟩ := hH.form (v := .slice B2 (textI h).length c2) (Sel.there (Sel.here _ _)) hTpos
        injection hBv with q1 q2 q3
        subst q1 q3
        have h45 := c45 g (bAt g) gb c2 (textI h) hTne hb hcb
        have h45z := c45z g (bAt g) gb c2 (textI h) hTne hb hcb
        have hpp : Hp.printP textI h = if Hp.parseP h.request (textI h) = (h, (textI h).length, 0) then (textI h, 0) else ([], 4) := by unfold Hp.printP; rw [if_neg h100]
        have hx100 := parse_few h.request (textI h)
        obtain ⟨X, hX⟩ : ∃ X, Hp.parseP h.request (textI h) = X := ⟨_, rfl⟩
        obtain ⟨x, nn, ee⟩ := X
        rw [hX] at hpp hx100
        rw [hpp]
        clear hpp
        dsimp only at hx100
        have h18 : ∀ A bc, CallsA Tryz.prog 18 (List.toArray [.bool h.request, .slice A (textI h).length bc]) (⟨A, 1, (textI h).length, bytesV (textI h), none⟩ :: GL G) [] (fun v H' => ∃ fa fc, v = .tuple (List.toArray [headV x (slF x fa fc), .int .i64 (nn : Int), .int .i64 (ee : Int)]) ∧ H' = [fldsO x (slF x fa fc)]) := fun A bc => by
          have := c18 G h.request A bc (textI h) hb
          rw [hX] at this
          exact this
        have h47 := fun fa fc => c47 x h fa ga fc gc (by omega)
        repeat' (first | refine stp ?_ | (refine g_guard ?_; (first | refine r_guardD rfl rfl rfl (fun hg hp => ?_) (fun hg hp => ?_) | refine r_guard rfl rfl rfl (fun hg => ?_) (fun hg => ?_))) | (refine g_load ?_; (first | (refine p_loadRF hH rfl rfl (by omega) tO ?_) | (refine p_loadSF hH rfl rfl tO ?_) | (refine p_loadSB hH rfl rfl tO ?_) | (refine p_loadRB hH rfl rfl (by omega) tO ?_) | (refine p_loadS hH rfl tW ?_))) | (refine g_call ?_; (first | (refine k_call (g := 45) Tryz.func45 rfl rfl hH (EvL.cons (EvK.any rfl) EvL.nil) (h45) tTk ReadsAll.nil (fun v H1 w hT hH => ?_); obtain ⟨rfl, rfl⟩ := hT; simp only [List.nil_append, List.cons_append] at hH) | (refine k_call (g := 45) Tryz.func45 rfl rfl hH (EvL.cons (EvK.any rfl) EvL.nil) (h45z) tTk ReadsAll.nil (fun v H1 w hT hH => ?_); obtain ⟨rfl, rfl⟩ := hT; simp only [List.nil_append, List.cons_append] at hH) | (refine k_call (g := 18) Tryz.func18 rfl rfl hH (EvL.cons (EvK.any rfl) (EvL.cons (EvK.any rfl) EvL.nil)) (h18 _ _) tTk (ReadsAll.cons (Reads1.fz (Sel.mem tSel) (by simp) (fun _ _ h => h)) (ReadsAll.skip ReadsAll.same)) (fun v H1 w hT hH => ?_); obtain ⟨xa, xc, rfl, rfl⟩ := hT; simp only [List.nil_append, List.cons_append] at hH) | (refine k_call (g := 46) Tryz.func46 rfl rfl hH (EvL.cons (EvK.any rfl) EvL.nil) (c46 _ _ _ _ _) tTk ReadsAll.nil (fun v H1 w hT hH => ?_); obtain ⟨rfl, rfl⟩ := hT; simp only [List.nil_append, List.cons_append] at hH) | (refine k_call (g := 47) Tryz.func47 rfl rfl hH (EvL.cons (EvK.any rfl) (EvL.cons (EvK.any rfl) EvL.nil)) (h47 _ _) tTk (ReadsAll.cons (.own (v := .nilIface) (Sel.mem tSel)) (ReadsAll.cons (.ro (by simp)) .nil)) (fun v H1 w hT hH => ?_); obtain ⟨rfl, rfl⟩ := hT; simp only [List.nil_append, List.cons_append] at hH) | (refine p_appendL hH rfl rfl (Reads1.own (v := .nilIface) (Sel.mem tSel)) rfl rfl rfl tO rfl (fun vb vc w hH => ?_)))) | refine n_buildSlice1 hH tE rfl rfl rfl rfl tN (fun g w hg hH => ?_) | (refine r_toInt Tryz.underlying183 Tryz.underlying3 rfl (wrap_small (by omega)) ?_) | (refine p_toTextS hH rfl rfl tO rfl ?_) | (refine p_neF rfl rfl ?_) | (refine p_eqF rfl rfl ?_) | (refine p_toBytes hH rfl (fun gz cz w hcz hH => ?_)) | (refine g_store ?_; (first | refine n_store hH rfl tE rfl rfl tN (fun w hH => ?_) | refine n_storeA hH rfl rfl rfl rfl rfl tN (fun w hH => ?_))) | refine n_alloc hH tW (fun g w hg hH => ?_) | (refine g_box ?_; (first | refine p_boxA hH rfl (fun g w hg hH => ?_) | refine p_boxI hH rfl (fun g w hg hH => ?_) | refine p_boxL hH rfl (fun g w hg hH => ?_))) | (refine g_cond ?_; (first | refine c_condD rfl (fun hc hp => ?_) (fun hc hp => ?_) | refine c_cond rfl (fun hc => ?_) (fun hc => ?_))) | refine d_startS (P := Tryz.prog) hH (Sub.skip (Sub.skip (Sub.keep Sub.nil))) (fun hH => ?_) | refine d_start (P := Tryz.prog) hH (fun hH => ?_) | (refine g_any ?_; (first | (apply d_done; exact rfl; kernel_rfl) | (apply d_next; exact rfl; exact rfl; exact rfl; kernel_rfl; (first | (simp only [falses, setB]; exact rfl) | exact rfl); exact hH.sub tSub; (intro w hH; (repeat (first | refine stpO ?_ | (refine g_load ?_; (first | (refine p_loadRF hH rfl rfl (by omega) tO ?_) | (refine p_loadSF hH rfl rfl tO ?_) | (refine p_loadS hH rfl tW ?_))) | (refine p_neF rfl rfl ?_) | (refine p_eqF rfl rfl ?_))); exact r_nil one_end)) | (apply d_split; exact rfl; exact rfl; exact rfl; exact rfl; exact rfl; intro hg; rotate_left; intro hg; rotate_right) | (apply d_all1; exact rfl; kernel_rfl; exact rfl; exact rfl) | (apply d_all2; exact rfl; kernel_rfl; exact rfl; exact rfl; exact rfl; exact rfl) | (apply d_all3; exact rfl; kernel_rfl; exact rfl; exact rfl; exact rfl; exact rfl; exact rfl; exact rfl))) | refine then_end (hH.sub tSub) ?_)
        all_goals first
          | (rw [if_neg (fun e => by simp only [Prod.mk.injEq] at e; obtain ⟨e1, e2, e3⟩ := e; first | (rw [e3] at hp; exact hp rfl) | (rw [e2] at hp; exact hp rfl) | (rw [e1] at hc; simp at hc))]; exact e_end (H1 := []) (res2 rfl rfl rfl) hH ⟨rfl, rfl⟩ tTk)
          | (have q1 : x = h := by simpa using hc
             have q2 : nn = (textI h).length := by omega
             have q3 : ee = 0 := by omega
             rw [if_pos (by rw [q1, q2, q3])]; exact e_end (H1 := []) (res2 rfl rfl rfl) hH ⟨rfl, rfl⟩ tTk)


end Go.Proofs.YtiofekhdicfmoaaGreatDoor

namespace Go.Proofs.YtiofekhdicfmoaaGreatDoor
open Go Go.Hr
attribute [local irreducible] Go.wpList Go.Code.wp Go.Calls Go.Hr.CallsA Go.wpAnyH Go.callFunc Go.callMethod Go.Instr.typeAssert Go.Sem.run
set_option maxHeartbeats 4000000
set_option linter.all false

set_option maxRecDepth 8000
def lit1 : List UInt8 := [71, 69, 84, 32, 47, 32, 72, 84, 84, 80, 47, 49, 46, 49, 13, 10, 72, 111, 115, 116, 58, 32, 97, 13, 10, 13, 10, 114, 101, 115, 116]
def lit2 : List UInt8 := [71, 69, 84, 32, 47, 32, 72, 84, 84, 80, 47, 49, 46, 49, 13, 10, 97, 32, 58, 32, 98, 13, 10]
def lit3 : List UInt8 := [71, 69, 84, 32, 47, 32, 72, 84, 84, 80, 47, 49, 46, 49, 13, 10, 72, 111, 115, 116, 58, 32, 97, 13, 10, 13, 10]
def h0 : Hp.HeadP := { request := true, method := [71, 69, 84], target := [47], minor := 1, status := 0, reason := [], fields := [⟨[72, 111, 115, 116], [97]⟩] }
theorem par1 : Hp.parseP true lit1 = (h0, 27, 0) := by kernel_rfl
theorem par2 : Hp.parseP true lit2 = ({}, 0, 83) := by kernel_rfl
theorem prt1 : Hp.printP textI h0 = (lit3, 0) := by kernel_rfl
theorem len0 : (textI h0).length ≤ 1099511627776 := by
  have : (textI h0).length = 27 := by kernel_rfl
  omega
theorem c17 (G : Glob) : CallsA Tryz.prog 17 (List.toArray []) (GL G) [] (fun v H' => v = .bool true ∧ H' = []) := by
  have h18a : ∀ A bc, CallsA Tryz.prog 18 (List.toArray [.bool true, .slice A 31 bc]) (⟨A, 1, 31, bytesV lit1, none⟩ :: GL G) [] (fun v H' => ∃ fa fc, v = .tuple (List.toArray [headV h0 (slF h0 fa fc), .int .i64 27, .int .i64 0]) ∧ H' = [fldsO h0 (slF h0 fa fc)]) := fun A bc => by
    have := c18 G true A bc lit1 (by decide)
    rw [par1] at this
    exact this
  have h18b : ∀ A bc, CallsA Tryz.prog 18 (List.toArray [.bool true, .slice A 23 bc]) (⟨A, 1, 23, bytesV lit2, none⟩ :: GL G) [] (fun v H' => ∃ fa fc, v = .tuple (List.toArray [headV {} (slF {} fa fc), .int .i64 0, .int .i64 83]) ∧ H' = [fldsO {} (slF {} fa fc)]) := fun A bc => by
    have := c18 G true A bc lit2 (by decide)
    rw [par2] at this
    exact this
  have h15 : ∀ ga gc, CallsA Tryz.prog 15 (List.toArray [headV h0 (slF h0 ga gc)]) (⟨ga, 2, 1, fldV h0.fields, none⟩ :: GL G) [] (fun v H' => v = .tuple (List.toArray [.string ⟨lit3.toArray⟩, .int .i64 0]) ∧ H' = []) := fun ga gc => by
    have := c15 G h0 ga gc (by decide) (by decide) (by decide) len0
    rw [prt1] at this
    exact this
  refine callsA_of (args := []) Tryz.func17 rfl Tryz.ntmps17 (by simp) ?_
  intro w0 hH
  refine stp ?_
  (refine p_buildSlice (xs := bytesV lit1) hH (by repeat (first | exact EvP.nil | apply EvP.cons (EvK.any rfl))) rfl (by kernel_rfl) rfl (fun g w hg hH => ?_))
  (refine r_convMark hH rfl (fun w hH => ?_))
  (refine k_call (g := 18) Tryz.func18 rfl rfl hH (EvL.cons (EvK.any rfl) (EvL.cons (EvK.any rfl) EvL.nil)) (h18a _ _) tTk (ReadsAll.cons (Reads1.fz (Sel.mem tSel) rfl (fun _ _ h => h)) ReadsAll.same) (fun v H1 w hT hH => ?_); obtain ⟨xa, xc, rfl, rfl⟩ := hT; simp only [List.nil_append, List.cons_append] at hH)
  repeat (first | refine stp ?_ | (refine g_store ?_; (first | refine n_store hH rfl tE rfl rfl tN (fun w hH => ?_) | refine n_storeA hH rfl rfl rfl rfl rfl tN (fun w hH => ?_))) | refine n_alloc hH tW (fun g w hg hH => ?_) | (refine g_box ?_; (first | refine p_boxA hH rfl (fun g w hg hH => ?_) | refine p_boxI hH rfl (fun g w hg hH => ?_) | refine p_boxL hH rfl (fun g w hg hH => ?_))))
  (refine p_buildSlice (xs := bytesV lit2) hH (by repeat (first | exact EvP.nil | apply EvP.cons (EvK.any rfl))) rfl (by kernel_rfl) rfl (fun g w hg hH => ?_))
  (refine r_convMark hH rfl (fun w hH => ?_))
  (refine k_call (g := 18) Tryz.func18 rfl rfl hH (EvL.cons (EvK.any rfl) (EvL.cons (EvK.any rfl) EvL.nil)) (h18b _ _) tTk (ReadsAll.cons (Reads1.fz (Sel.mem tSel) rfl (fun _ _ h => h)) ReadsAll.same) (fun v H1 w hT hH => ?_); obtain ⟨ya, yc, rfl, rfl⟩ := hT; simp only [List.nil_append, List.cons_append] at hH)
  repeat (first | refine stp ?_ | (refine g_store ?_; (first | refine n_store hH rfl tE rfl rfl tN (fun w hH => ?_) | refine n_storeA hH rfl rfl rfl rfl rfl tN (fun w hH => ?_))) | refine n_alloc hH tW (fun g w hg hH => ?_) | (refine g_box ?_; (first | refine p_boxA hH rfl (fun g w hg hH => ?_) | refine p_boxI hH rfl (fun g w hg hH => ?_) | refine p_boxL hH rfl (fun g w hg hH => ?_))))
  (refine k_call (g := 15) Tryz.func15 rfl rfl hH (EvL.cons (EvK.any rfl) EvL.nil) (h15 _ _) tTk (ReadsAll.cons (.own (v := .nilIface) (Sel.mem tSel)) ReadsAll.same) (fun v H1 w hT hH => ?_); obtain ⟨rfl, rfl⟩ := hT; simp only [List.nil_append, List.cons_append] at hH)
  refine stp ?_
  refine e_end (H1 := []) (res1 rfl rfl) hH ⟨congrArg Value.bool (decide_eq_true rfl), rfl⟩ tTk

end Go.Proofs.YtiofekhdicfmoaaGreatDoor
