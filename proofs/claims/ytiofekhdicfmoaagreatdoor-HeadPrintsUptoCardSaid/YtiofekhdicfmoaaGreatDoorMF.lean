import Derived.Test.YtiofekhdicfmoaaGreatDoorMC
import Derived.Test.YtiofekhdicfmoaaGreatDoorMB
import Derived.Test.YtiofekhdicfmoaaGreatDoorMD
import Derived.Test.YtiofekhdicfmoaaGreatDoorME
import Derived.KernelRfl
import Derived.Test.YtiofekhdicfmoaaGreatDoorMA
import Derived.WalkKit
import Derived.LaidEql
import Derived.Stop.Asserts
import Derived.RowKitTokens
import Derived.Lib.SplitLaws
import Derived.Lib.SmallJoins
set_option linter.all false
namespace Go.Proofs.YtiofekhdicfmoaaGreatDoor
open Go Go.Hr
attribute [local irreducible] Go.wpList Go.Code.wp Go.Calls Go.Hr.CallsA Go.wpAnyH Go.callFunc Go.callMethod Go.Instr.typeAssert Go.Sem.run
set_option maxHeartbeats 4000000
set_option linter.all false

theorem c70 (e : Int) : CallsA Tryz.prog 70 (List.toArray [.int .i64 e]) [] [] (fun v H' => v = .iface 129 (.agg (List.toArray [.int .i64 e])) ∧ H' = []) := by
  refine callsA_of (args := [_]) Tryz.func70 rfl Tryz.ntmps70 (by simp) ?_
  intro w0 hH
  repeat' (first | refine stp ?_ | (refine g_guard ?_; (first | refine r_guardD rfl rfl rfl (fun hg hp => ?_) (fun hg hp => ?_) | refine r_guard rfl rfl rfl (fun hg => ?_) (fun hg => ?_))) | (refine g_load ?_; (first | (refine p_loadRF hH rfl rfl (by omega) tO ?_) | (refine p_loadSF hH rfl rfl tO ?_) | (refine p_loadSB hH rfl rfl tO ?_) | (refine p_loadRB hH rfl rfl (by omega) tO ?_) | (refine p_loadS hH rfl tW ?_))) | (refine g_call ?_; (first | (refine p_appendL hH rfl rfl (Reads1.own (v := .nilIface) (Sel.mem tSel)) rfl rfl rfl tO rfl (fun vb vc w hH => ?_)))) | refine n_buildSlice1 hH tE rfl rfl rfl rfl tN (fun g w hg hH => ?_) | (refine r_toInt Tryz.underlying183 Tryz.underlying3 rfl (wrap_small (by omega)) ?_) | (refine p_toTextS hH rfl rfl tO rfl ?_) | (refine p_neF rfl rfl ?_) | (refine p_eqF rfl rfl ?_) | (refine g_store ?_; (first | refine n_store hH rfl tE rfl rfl tN (fun w hH => ?_) | refine n_storeA hH rfl rfl rfl rfl rfl tN (fun w hH => ?_))) | refine n_alloc hH tW (fun g w hg hH => ?_) | (refine g_box ?_; (first | refine p_boxA hH rfl (fun g w hg hH => ?_) | refine p_boxI hH rfl (fun g w hg hH => ?_) | refine p_boxL hH rfl (fun g w hg hH => ?_))) | (refine g_cond ?_; (first | refine c_condD rfl (fun hc hp => ?_) (fun hc hp => ?_) | refine c_cond rfl (fun hc => ?_) (fun hc => ?_))) | refine d_start (P := Tryz.prog) hH (fun hH => ?_) | (refine g_any ?_; (first | (apply d_done; exact rfl; kernel_rfl) | (apply d_next; exact rfl; exact rfl; exact rfl; kernel_rfl; (first | (simp only [falses, setB]; exact rfl) | exact rfl); exact hH.sub tSub; (intro w hH; (repeat (first | refine stpO ?_ | (refine g_load ?_; (first | (refine p_loadRF hH rfl rfl (by omega) tO ?_) | (refine p_loadSF hH rfl rfl tO ?_) | (refine p_loadS hH rfl tW ?_))) | (refine p_neF rfl rfl ?_) | (refine p_eqF rfl rfl ?_))); exact r_nil one_end)) | (apply d_split; exact rfl; exact rfl; exact rfl; exact rfl; exact rfl; intro hg; rotate_left; intro hg; rotate_right) | (apply d_all1; exact rfl; kernel_rfl; exact rfl; exact rfl) | (apply d_all2; exact rfl; kernel_rfl; exact rfl; exact rfl; exact rfl; exact rfl) | (apply d_all3; exact rfl; kernel_rfl; exact rfl; exact rfl; exact rfl; exact rfl; exact rfl; exact rfl))) | refine then_end (hH.sub tSub) ?_)
  all_goals refine e_end (res1 rfl tW) hH ⟨?_, rfl⟩ tTk
  all_goals rfl
theorem c120 (c : UInt8) : CallsA Tryz.prog 120 (List.toArray [.int .u8 (c.toNat : Int)]) [] [] (fun v H' => v = .bool (Hp.blankP c) ∧ H' = []) := by
  refine callsA_of (args := [_]) Tryz.func120 rfl Tryz.ntmps120 (by simp) ?_
  intro w0 hH
  repeat' (first | refine stp ?_ | (refine g_guard ?_; (first | refine r_guardD rfl rfl rfl (fun hg hp => ?_) (fun hg hp => ?_) | refine r_guard rfl rfl rfl (fun hg => ?_) (fun hg => ?_))) | (refine g_load ?_; (first | (refine p_loadRF hH rfl rfl (by omega) tO ?_) | (refine p_loadSF hH rfl rfl tO ?_) | (refine p_loadSB hH rfl rfl tO ?_) | (refine p_loadRB hH rfl rfl (by omega) tO ?_) | (refine p_loadS hH rfl tW ?_))) | (refine g_call ?_; (first | (refine p_appendL hH rfl rfl (Reads1.own (v := .nilIface) (Sel.mem tSel)) rfl rfl rfl tO rfl (fun vb vc w hH => ?_)))) | refine n_buildSlice1 hH tE rfl rfl rfl rfl tN (fun g w hg hH => ?_) | (refine r_toInt Tryz.underlying183 Tryz.underlying3 rfl (wrap_small (by omega)) ?_) | (refine p_toTextS hH rfl rfl tO rfl ?_) | (refine p_neF rfl rfl ?_) | (refine p_eqF rfl rfl ?_) | (refine g_store ?_; (first | refine n_store hH rfl tE rfl rfl tN (fun w hH => ?_) | refine n_storeA hH rfl rfl rfl rfl rfl tN (fun w hH => ?_))) | refine n_alloc hH tW (fun g w hg hH => ?_) | (refine g_box ?_; (first | refine p_boxA hH rfl (fun g w hg hH => ?_) | refine p_boxI hH rfl (fun g w hg hH => ?_) | refine p_boxL hH rfl (fun g w hg hH => ?_))) | (refine g_cond ?_; (first | refine c_condD rfl (fun hc hp => ?_) (fun hc hp => ?_) | refine c_cond rfl (fun hc => ?_) (fun hc => ?_))) | refine d_start (P := Tryz.prog) hH (fun hH => ?_) | (refine g_any ?_; (first | (apply d_done; exact rfl; kernel_rfl) | (apply d_next; exact rfl; exact rfl; exact rfl; kernel_rfl; (first | (simp only [falses, setB]; exact rfl) | exact rfl); exact hH.sub tSub; (intro w hH; (repeat (first | refine stpO ?_ | (refine g_load ?_; (first | (refine p_loadRF hH rfl rfl (by omega) tO ?_) | (refine p_loadSF hH rfl rfl tO ?_) | (refine p_loadS hH rfl tW ?_))) | (refine p_neF rfl rfl ?_) | (refine p_eqF rfl rfl ?_))); exact r_nil one_end)) | (apply d_split; exact rfl; exact rfl; exact rfl; exact rfl; exact rfl; intro hg; rotate_left; intro hg; rotate_right) | (apply d_all1; exact rfl; kernel_rfl; exact rfl; exact rfl) | (apply d_all2; exact rfl; kernel_rfl; exact rfl; exact rfl; exact rfl; exact rfl) | (apply d_all3; exact rfl; kernel_rfl; exact rfl; exact rfl; exact rfl; exact rfl; exact rfl; exact rfl))) | refine then_end (hH.sub tSub) ?_)
  all_goals refine e_end (res1 rfl tW) hH ⟨?_, rfl⟩ tTk
  all_goals (refine congrArg Value.bool ?_; rw [Bool.eq_iff_iff]; simp [Hp.blankP, ← UInt8.toNat_inj]; omega)
theorem c118 (c : UInt8) : CallsA Tryz.prog 118 (List.toArray [.int .u8 (c.toNat : Int)]) [] [] (fun v H' => v = .bool (Hp.digitP c) ∧ H' = []) := by
  refine callsA_of (args := [_]) Tryz.func118 rfl Tryz.ntmps118 (by simp) ?_
  intro w0 hH
  repeat' (first | refine stp ?_ | (refine g_guard ?_; (first | refine r_guardD rfl rfl rfl (fun hg hp => ?_) (fun hg hp => ?_) | refine r_guard rfl rfl rfl (fun hg => ?_) (fun hg => ?_))) | (refine g_load ?_; (first | (refine p_loadRF hH rfl rfl (by omega) tO ?_) | (refine p_loadSF hH rfl rfl tO ?_) | (refine p_loadSB hH rfl rfl tO ?_) | (refine p_loadRB hH rfl rfl (by omega) tO ?_) | (refine p_loadS hH rfl tW ?_))) | (refine g_call ?_; (first | (refine p_appendL hH rfl rfl (Reads1.own (v := .nilIface) (Sel.mem tSel)) rfl rfl rfl tO rfl (fun vb vc w hH => ?_)))) | refine n_buildSlice1 hH tE rfl rfl rfl rfl tN (fun g w hg hH => ?_) | (refine r_toInt Tryz.underlying183 Tryz.underlying3 rfl (wrap_small (by omega)) ?_) | (refine p_toTextS hH rfl rfl tO rfl ?_) | (refine p_neF rfl rfl ?_) | (refine p_eqF rfl rfl ?_) | (refine g_store ?_; (first | refine n_store hH rfl tE rfl rfl tN (fun w hH => ?_) | refine n_storeA hH rfl rfl rfl rfl rfl tN (fun w hH => ?_))) | refine n_alloc hH tW (fun g w hg hH => ?_) | (refine g_box ?_; (first | refine p_boxA hH rfl (fun g w hg hH => ?_) | refine p_boxI hH rfl (fun g w hg hH => ?_) | refine p_boxL hH rfl (fun g w hg hH => ?_))) | (refine g_cond ?_; (first | refine c_condD rfl (fun hc hp => ?_) (fun hc hp => ?_) | refine c_cond rfl (fun hc => ?_) (fun hc => ?_))) | refine d_start (P := Tryz.prog) hH (fun hH => ?_) | (refine g_any ?_; (first | (apply d_done; exact rfl; kernel_rfl) | (apply d_next; exact rfl; exact rfl; exact rfl; kernel_rfl; (first | (simp only [falses, setB]; exact rfl) | exact rfl); exact hH.sub tSub; (intro w hH; (repeat (first | refine stpO ?_ | (refine g_load ?_; (first | (refine p_loadRF hH rfl rfl (by omega) tO ?_) | (refine p_loadSF hH rfl rfl tO ?_) | (refine p_loadS hH rfl tW ?_))) | (refine p_neF rfl rfl ?_) | (refine p_eqF rfl rfl ?_))); exact r_nil one_end)) | (apply d_split; exact rfl; exact rfl; exact rfl; exact rfl; exact rfl; intro hg; rotate_left; intro hg; rotate_right) | (apply d_all1; exact rfl; kernel_rfl; exact rfl; exact rfl) | (apply d_all2; exact rfl; kernel_rfl; exact rfl; exact rfl; exact rfl; exact rfl) | (apply d_all3; exact rfl; kernel_rfl; exact rfl; exact rfl; exact rfl; exact rfl; exact rfl; exact rfl))) | refine then_end (hH.sub tSub) ?_)
  all_goals refine e_end (res1 rfl tW) hH ⟨?_, rfl⟩ tTk
  all_goals (refine congrArg Value.bool ?_; rw [Bool.eq_iff_iff]; simp [Hp.digitP, UInt8.le_iff_toNat_le]; omega)
theorem callsA_pure {g : FuncId} {args : Array Value} {v : Value} (h : ∀ w, Calls Tryz.prog g args w (fun e w' => e = .returned v ∧ w' = w)) : CallsA Tryz.prog g args [] [] (fun u H' => u = v ∧ H' = []) := by
  unfold CallsA
  intro w hw
  refine (h w).mono fun e w' he => ⟨v, [], he.1, ⟨rfl, rfl⟩, ?_⟩
  rw [he.2]; exact hw
theorem callsA_drew {g : FuncId} {args : Array Value} {v : Value} (h : ∀ w, Calls Tryz.prog g args w (fun e w' => e = .returned v ∧ ∃ n, w' = w.drewN n)) : CallsA Tryz.prog g args [] [] (fun u H' => u = v ∧ H' = []) := by
  unfold CallsA
  intro w hw
  refine (h w).mono fun e w' he => ?_
  obtain ⟨he, k, rfl⟩ := he
  exact ⟨v, [], he, ⟨rfl, rfl⟩, hw.drewN k⟩
theorem c101 (s : List UInt8) (c : UInt8) : CallsA Tryz.prog 101 (List.toArray [.string ⟨s.toArray⟩, .int .u8 (c.toNat : Int)]) [] [] (fun v H' => v = .int .i64 (Lib.indexByte s c) ∧ H' = []) :=
  callsA_pure fun w => by
    have := Tryz.strings_IndexByte ⟨s.toArray⟩ (c.toNat : Int) w
    simpa using this
theorem tchar_eq (c : UInt8) : Hp.tcharP c = ((decide ((48:Int) ≤ c.toNat) && decide ((c.toNat:Int) ≤ 57)) || ((decide ((97:Int) ≤ c.toNat) && decide ((c.toNat:Int) ≤ 122)) || (decide ((65:Int) ≤ c.toNat) && decide ((c.toNat:Int) ≤ 90))) || decide (0 ≤ Lib.indexByte [33, 35, 36, 37, 38, 39, 42, 43, 45, 46, 94, 95, 96, 124, 126] c)) := by
  unfold Hp.tcharP
  rw [Lib.contains_iff_indexByte]
  have h (a b : UInt8) : decide (a ≤ b) = decide ((a.toNat : Int) ≤ b.toNat) := by simp [UInt8.le_iff_toNat_le]
  simp only [h]
  rfl
theorem c76 (c : UInt8) : CallsA Tryz.prog 76 (List.toArray [.int .u8 (c.toNat : Int)]) [] [] (fun v H' => v = .bool (Hp.tcharP c) ∧ H' = []) := by
  refine callsA_of (args := [_]) Tryz.func76 rfl Tryz.ntmps76 (by simp) ?_
  intro w0 hH
  repeat' (first | refine stp ?_ | (refine g_guard ?_; (first | refine r_guardD rfl rfl rfl (fun hg hp => ?_) (fun hg hp => ?_) | refine r_guard rfl rfl rfl (fun hg => ?_) (fun hg => ?_))) | (refine g_load ?_; (first | (refine p_loadRF hH rfl rfl (by omega) tO ?_) | (refine p_loadSF hH rfl rfl tO ?_) | (refine p_loadSB hH rfl rfl tO ?_) | (refine p_loadRB hH rfl rfl (by omega) tO ?_) | (refine p_loadS hH rfl tW ?_))) | (refine g_call ?_; (first | (refine k_call (g := 101) Tryz.func101 rfl rfl hH (EvL.cons (EvK.any rfl) (EvL.cons (EvK.any rfl) EvL.nil)) (c101 _ _) tTk tRd (fun v H1 w hT hH => ?_); obtain ⟨rfl, rfl⟩ := hT; simp only [List.nil_append, List.cons_append] at hH) | (refine p_appendL hH rfl rfl (Reads1.own (v := .nilIface) (Sel.mem tSel)) rfl rfl rfl tO rfl (fun vb vc w hH => ?_)))) | refine n_buildSlice1 hH tE rfl rfl rfl rfl tN (fun g w hg hH => ?_) | (refine r_toInt Tryz.underlying183 Tryz.underlying3 rfl (wrap_small (by omega)) ?_) | (refine p_toTextS hH rfl rfl tO rfl ?_) | (refine p_neF rfl rfl ?_) | (refine p_eqF rfl rfl ?_) | (refine g_store ?_; (first | refine n_store hH rfl tE rfl rfl tN (fun w hH => ?_) | refine n_storeA hH rfl rfl rfl rfl rfl tN (fun w hH => ?_))) | refine n_alloc hH tW (fun g w hg hH => ?_) | (refine g_box ?_; (first | refine p_boxA hH rfl (fun g w hg hH => ?_) | refine p_boxI hH rfl (fun g w hg hH => ?_) | refine p_boxL hH rfl (fun g w hg hH => ?_))) | (refine g_cond ?_; (first | refine c_condD rfl (fun hc hp => ?_) (fun hc hp => ?_) | refine c_cond rfl (fun hc => ?_) (fun hc => ?_))) | refine d_start (P := Tryz.prog) hH (fun hH => ?_) | (refine g_any ?_; (first | (apply d_done; exact rfl; kernel_rfl) | (apply d_next; exact rfl; exact rfl; exact rfl; kernel_rfl; (first | (simp only [falses, setB]; exact rfl) | exact rfl); exact hH.sub tSub; (intro w hH; (repeat (first | refine stpO ?_ | (refine g_load ?_; (first | (refine p_loadRF hH rfl rfl (by omega) tO ?_) | (refine p_loadSF hH rfl rfl tO ?_) | (refine p_loadS hH rfl tW ?_))) | (refine p_neF rfl rfl ?_) | (refine p_eqF rfl rfl ?_))); exact r_nil one_end)) | (apply d_split; exact rfl; exact rfl; exact rfl; exact rfl; exact rfl; intro hg; rotate_left; intro hg; rotate_right) | (apply d_all1; exact rfl; kernel_rfl; exact rfl; exact rfl) | (apply d_all2; exact rfl; kernel_rfl; exact rfl; exact rfl; exact rfl; exact rfl) | (apply d_all3; exact rfl; kernel_rfl; exact rfl; exact rfl; exact rfl; exact rfl; exact rfl; exact rfl))) | refine then_end (hH.sub tSub) ?_)
  all_goals refine e_end (res1 rfl tW) hH ⟨?_, rfl⟩ tTk
  all_goals (refine congrArg Value.bool ?_; rw [tchar_eq]; first | (simp_all; done) | (simp_all; omega))
/-! loops over a text -/
theorem all_step {p : UInt8 → Bool} {s : List UInt8} {i : Nat} (h : (s.take i).all p = true) (hi : i < s.length) (hp : p (s.getD i 0) = true) : (s.take (i + 1)).all p = true := by
  rw [List.take_succ_eq_append_getElem hi, List.all_append, h]
  have : s.getD i 0 = s[i] := by simp [List.getD, hi]
  rw [this] at hp
  simp [hp]
theorem all_not {p : UInt8 → Bool} {s : List UInt8} {i : Nat} (hi : i < s.length) (hp : p (s.getD i 0) = false) : s.all p = false := by
  have : s.getD i 0 = s[i] := by simp [List.getD, hi]
  rw [this] at hp
  cases h : s.all p with
  | false => rfl
  | true => rw [List.all_eq_true] at h; rw [h _ (List.getElem_mem hi)] at hp; cases hp
theorem all_end {p : UInt8 → Bool} {s : List UInt8} {i : Nat} (h : (s.take i).all p = true) (hi : s.length ≤ i) : s.all p = true := by
  rwa [List.take_of_length_le hi] at h
theorem vis_eq (c : UInt8) : Hp.visP c = (decide ((33:Int) ≤ c.toNat) && decide ((c.toNat:Int) ≤ 126)) := by
  have h (a b : UInt8) : decide (a ≤ b) = decide ((a.toNat : Int) ≤ b.toNat) := by simp [UInt8.le_iff_toNat_le]
  simp only [Hp.visP, h]; rfl
theorem c89 (s : List UInt8) (hs : s.length ≤ 1099511627776) : CallsA Tryz.prog 89 (List.toArray [.string ⟨s.toArray⟩]) [] [] (fun v H' => v = .bool (Hp.visibleP s) ∧ H' = []) := by
  refine callsA_of (args := [_]) Tryz.func89 rfl Tryz.ntmps89 (by simp) ?_
  intro w0 hH
  repeat' (first | refine stp ?_ | (refine g_guard ?_; (first | refine r_guardD rfl rfl rfl (fun hg hp => ?_) (fun hg hp => ?_) | refine r_guard rfl rfl rfl (fun hg => ?_) (fun hg => ?_))) | (refine g_load ?_; (first | (refine p_loadRF hH rfl rfl (by omega) tO ?_) | (refine p_loadSF hH rfl rfl tO ?_) | (refine p_loadSB hH rfl rfl tO ?_) | (refine p_loadRB hH rfl rfl (by omega) tO ?_) | (refine p_loadS hH rfl tW ?_))) | (refine g_call ?_; (first | (refine p_appendL hH rfl rfl (Reads1.own (v := .nilIface) (Sel.mem tSel)) rfl rfl rfl tO rfl (fun vb vc w hH => ?_)))) | refine n_buildSlice1 hH tE rfl rfl rfl rfl tN (fun g w hg hH => ?_) | (refine r_toInt Tryz.underlying183 Tryz.underlying3 rfl (wrap_small (by omega)) ?_) | (refine p_toTextS hH rfl rfl tO rfl ?_) | (refine p_neF rfl rfl ?_) | (refine p_eqF rfl rfl ?_) | (refine g_store ?_; (first | refine n_store hH rfl tE rfl rfl tN (fun w hH => ?_) | refine n_storeA hH rfl rfl rfl rfl rfl tN (fun w hH => ?_))) | refine n_alloc hH tW (fun g w hg hH => ?_) | (refine g_box ?_; (first | refine p_boxA hH rfl (fun g w hg hH => ?_) | refine p_boxI hH rfl (fun g w hg hH => ?_) | refine p_boxL hH rfl (fun g w hg hH => ?_))) | (refine g_cond ?_; (first | refine c_condD rfl (fun hc hp => ?_) (fun hc hp => ?_) | refine c_cond rfl (fun hc => ?_) (fun hc => ?_))) | refine d_start (P := Tryz.prog) hH (fun hH => ?_) | (refine g_any ?_; (first | (apply d_done; exact rfl; kernel_rfl) | (apply d_next; exact rfl; exact rfl; exact rfl; kernel_rfl; (first | (simp only [falses, setB]; exact rfl) | exact rfl); exact hH.sub tSub; (intro w hH; (repeat (first | refine stpO ?_ | (refine g_load ?_; (first | (refine p_loadRF hH rfl rfl (by omega) tO ?_) | (refine p_loadSF hH rfl rfl tO ?_) | (refine p_loadS hH rfl tW ?_))) | (refine p_neF rfl rfl ?_) | (refine p_eqF rfl rfl ?_))); exact r_nil one_end)) | (apply d_split; exact rfl; exact rfl; exact rfl; exact rfl; exact rfl; intro hg; rotate_left; intro hg; rotate_right) | (apply d_all1; exact rfl; kernel_rfl; exact rfl; exact rfl) | (apply d_all2; exact rfl; kernel_rfl; exact rfl; exact rfl; exact rfl; exact rfl) | (apply d_all3; exact rfl; kernel_rfl; exact rfl; exact rfl; exact rfl; exact rfl; exact rfl; exact rfl))) | refine then_end (hH.sub tSub) ?_)
  refine c_loopS (fun i : Nat => [(0, .string ⟨s.toArray⟩), (5, .int .i64 (s.length : Int)), (6, .int .i64 (i : Int))]) (fun i w => i ≤ s.length ∧ (s.take i).all Hp.visP = true ∧ Holds w0 (bl []) w [] []) (fun i => s.length - i) 0 tAg ⟨by omega, rfl, hH⟩ (fun i f w hI => ?_)
  obtain ⟨hi, hall, hH⟩ := hI
  repeat' (first | refine stp ?_ | (refine g_guard ?_; (first | refine r_guardD rfl rfl rfl (fun hg hp => ?_) (fun hg hp => ?_) | refine r_guard rfl rfl rfl (fun hg => ?_) (fun hg => ?_))) | (refine g_load ?_; (first | (refine p_loadRF hH rfl rfl (by omega) tO ?_) | (refine p_loadSF hH rfl rfl tO ?_) | (refine p_loadSB hH rfl rfl tO ?_) | (refine p_loadRB hH rfl rfl (by omega) tO ?_) | (refine p_loadS hH rfl tW ?_))) | (refine g_call ?_; (first | (refine p_appendL hH rfl rfl (Reads1.own (v := .nilIface) (Sel.mem tSel)) rfl rfl rfl tO rfl (fun vb vc w hH => ?_)))) | refine n_buildSlice1 hH tE rfl rfl rfl rfl tN (fun g w hg hH => ?_) | (refine r_toInt Tryz.underlying183 Tryz.underlying3 rfl (wrap_small (by omega)) ?_) | (refine p_toTextS hH rfl rfl tO rfl ?_) | (refine p_neF rfl rfl ?_) | (refine p_eqF rfl rfl ?_) | (refine g_store ?_; (first | refine n_store hH rfl tE rfl rfl tN (fun w hH => ?_) | refine n_storeA hH rfl rfl rfl rfl rfl tN (fun w hH => ?_))) | refine n_alloc hH tW (fun g w hg hH => ?_) | (refine g_box ?_; (first | refine p_boxA hH rfl (fun g w hg hH => ?_) | refine p_boxI hH rfl (fun g w hg hH => ?_) | refine p_boxL hH rfl (fun g w hg hH => ?_))) | (refine g_cond ?_; (first | refine c_condD rfl (fun hc hp => ?_) (fun hc hp => ?_) | refine c_cond rfl (fun hc => ?_) (fun hc => ?_))) | refine d_start (P := Tryz.prog) hH (fun hH => ?_) | (refine g_any ?_; (first | (apply d_done; exact rfl; kernel_rfl) | (apply d_next; exact rfl; exact rfl; exact rfl; kernel_rfl; (first | (simp only [falses, setB]; exact rfl) | exact rfl); exact hH.sub tSub; (intro w hH; (repeat (first | refine stpO ?_ | (refine g_load ?_; (first | (refine p_loadRF hH rfl rfl (by omega) tO ?_) | (refine p_loadSF hH rfl rfl tO ?_) | (refine p_loadS hH rfl tW ?_))) | (refine p_neF rfl rfl ?_) | (refine p_eqF rfl rfl ?_))); exact r_nil one_end)) | (apply d_split; exact rfl; exact rfl; exact rfl; exact rfl; exact rfl; intro hg; rotate_left; intro hg; rotate_right) | (apply d_all1; exact rfl; kernel_rfl; exact rfl; exact rfl) | (apply d_all2; exact rfl; kernel_rfl; exact rfl; exact rfl; exact rfl; exact rfl) | (apply d_all3; exact rfl; kernel_rfl; exact rfl; exact rfl; exact rfl; exact rfl; exact rfl; exact rfl))) | refine then_end (hH.sub tSub) ?_)
  all_goals try simp only [Int.toNat_natCast] at *
  · refine e_end (res1 rfl tW) hH ⟨?_, rfl⟩ tTk
    refine congrArg Value.bool ?_
    rw [Hp.visibleP, all_not (i := i) (by omega) (by rw [vis_eq]; simp [-List.getD_eq_getElem?_getD]; omega)]; rfl
  · refine e_end (res1 rfl tW) hH ⟨?_, rfl⟩ tTk
    refine congrArg Value.bool ?_
    rw [Hp.visibleP, all_not (i := i) (by omega) (by rw [vis_eq]; simp [-List.getD_eq_getElem?_getD]; omega)]; rfl
  · exact ⟨i + 1, _, _, by omega, rfl, tAg, by omega, all_step hall (by omega) (by rw [vis_eq]; simp [-List.getD_eq_getElem?_getD]; omega), hH⟩
  · refine e_end (res1 rfl tW) hH ⟨?_, rfl⟩ tTk
    refine congrArg Value.bool ?_
    rw [Hp.visibleP, all_end hall (by omega)]; cases s <;> rfl
theorem c58 (s : List UInt8) (hs : s.length ≤ 1099511627776) : CallsA Tryz.prog 58 (List.toArray [.string ⟨s.toArray⟩]) [] [] (fun v H' => v = .bool (Hp.tokenP s) ∧ H' = []) := by
  refine callsA_of (args := [_]) Tryz.func58 rfl Tryz.ntmps58 (by simp) ?_
  intro w0 hH
  repeat' (first | refine stp ?_ | (refine g_guard ?_; (first | refine r_guardD rfl rfl rfl (fun hg hp => ?_) (fun hg hp => ?_) | refine r_guard rfl rfl rfl (fun hg => ?_) (fun hg => ?_))) | (refine g_load ?_; (first | (refine p_loadRF hH rfl rfl (by omega) tO ?_) | (refine p_loadSF hH rfl rfl tO ?_) | (refine p_loadSB hH rfl rfl tO ?_) | (refine p_loadRB hH rfl rfl (by omega) tO ?_) | (refine p_loadS hH rfl tW ?_))) | (refine g_call ?_; (first | (refine p_appendL hH rfl rfl (Reads1.own (v := .nilIface) (Sel.mem tSel)) rfl rfl rfl tO rfl (fun vb vc w hH => ?_)))) | refine n_buildSlice1 hH tE rfl rfl rfl rfl tN (fun g w hg hH => ?_) | (refine r_toInt Tryz.underlying183 Tryz.underlying3 rfl (wrap_small (by omega)) ?_) | (refine p_toTextS hH rfl rfl tO rfl ?_) | (refine p_neF rfl rfl ?_) | (refine p_eqF rfl rfl ?_) | (refine g_store ?_; (first | refine n_store hH rfl tE rfl rfl tN (fun w hH => ?_) | refine n_storeA hH rfl rfl rfl rfl rfl tN (fun w hH => ?_))) | refine n_alloc hH tW (fun g w hg hH => ?_) | (refine g_box ?_; (first | refine p_boxA hH rfl (fun g w hg hH => ?_) | refine p_boxI hH rfl (fun g w hg hH => ?_) | refine p_boxL hH rfl (fun g w hg hH => ?_))) | (refine g_cond ?_; (first | refine c_condD rfl (fun hc hp => ?_) (fun hc hp => ?_) | refine c_cond rfl (fun hc => ?_) (fun hc => ?_))) | refine d_start (P := Tryz.prog) hH (fun hH => ?_) | (refine g_any ?_; (first | (apply d_done; exact rfl; kernel_rfl) | (apply d_next; exact rfl; exact rfl; exact rfl; kernel_rfl; (first | (simp only [falses, setB]; exact rfl) | exact rfl); exact hH.sub tSub; (intro w hH; (repeat (first | refine stpO ?_ | (refine g_load ?_; (first | (refine p_loadRF hH rfl rfl (by omega) tO ?_) | (refine p_loadSF hH rfl rfl tO ?_) | (refine p_loadS hH rfl tW ?_))) | (refine p_neF rfl rfl ?_) | (refine p_eqF rfl rfl ?_))); exact r_nil one_end)) | (apply d_split; exact rfl; exact rfl; exact rfl; exact rfl; exact rfl; intro hg; rotate_left; intro hg; rotate_right) | (apply d_all1; exact rfl; kernel_rfl; exact rfl; exact rfl) | (apply d_all2; exact rfl; kernel_rfl; exact rfl; exact rfl; exact rfl; exact rfl) | (apply d_all3; exact rfl; kernel_rfl; exact rfl; exact rfl; exact rfl; exact rfl; exact rfl; exact rfl))) | refine then_end (hH.sub tSub) ?_)
  refine c_loopS (fun i : Nat => [(0, .string ⟨s.toArray⟩), (5, .int .i64 (s.length : Int)), (6, .int .i64 (i : Int))]) (fun i w => i ≤ s.length ∧ (s.take i).all Hp.tcharP = true ∧ Holds w0 (bl []) w [] []) (fun i => s.length - i) 0 tAg ⟨by omega, rfl, hH⟩ (fun i f w hI => ?_)
  obtain ⟨hi, hall, hH⟩ := hI
  repeat' (first | refine stp ?_ | (refine g_guard ?_; (first | refine r_guardD rfl rfl rfl (fun hg hp => ?_) (fun hg hp => ?_) | refine r_guard rfl rfl rfl (fun hg => ?_) (fun hg => ?_))) | (refine g_load ?_; (first | (refine p_loadRF hH rfl rfl (by omega) tO ?_) | (refine p_loadSF hH rfl rfl tO ?_) | (refine p_loadSB hH rfl rfl tO ?_) | (refine p_loadRB hH rfl rfl (by omega) tO ?_) | (refine p_loadS hH rfl tW ?_))) | (refine g_call ?_; (first | (refine k_call (g := 76) Tryz.func76 rfl rfl hH (EvL.cons (EvK.any rfl) EvL.nil) (c76 _) tTk tRd (fun v H1 w hT hH => ?_); obtain ⟨rfl, rfl⟩ := hT; simp only [List.nil_append, List.cons_append] at hH) | (refine p_appendL hH rfl rfl (Reads1.own (v := .nilIface) (Sel.mem tSel)) rfl rfl rfl tO rfl (fun vb vc w hH => ?_)))) | refine n_buildSlice1 hH tE rfl rfl rfl rfl tN (fun g w hg hH => ?_) | (refine r_toInt Tryz.underlying183 Tryz.underlying3 rfl (wrap_small (by omega)) ?_) | (refine p_toTextS hH rfl rfl tO rfl ?_) | (refine p_neF rfl rfl ?_) | (refine p_eqF rfl rfl ?_) | (refine g_store ?_; (first | refine n_store hH rfl tE rfl rfl tN (fun w hH => ?_) | refine n_storeA hH rfl rfl rfl rfl rfl tN (fun w hH => ?_))) | refine n_alloc hH tW (fun g w hg hH => ?_) | (refine g_box ?_; (first | refine p_boxA hH rfl (fun g w hg hH => ?_) | refine p_boxI hH rfl (fun g w hg hH => ?_) | refine p_boxL hH rfl (fun g w hg hH => ?_))) | (refine g_cond ?_; (first | refine c_condD rfl (fun hc hp => ?_) (fun hc hp => ?_) | refine c_cond rfl (fun hc => ?_) (fun hc => ?_))) | refine d_start (P := Tryz.prog) hH (fun hH => ?_) | (refine g_any ?_; (first | (apply d_done; exact rfl; kernel_rfl) | (apply d_next; exact rfl; exact rfl; exact rfl; kernel_rfl; (first | (simp only [falses, setB]; exact rfl) | exact rfl); exact hH.sub tSub; (intro w hH; (repeat (first | refine stpO ?_ | (refine g_load ?_; (first | (refine p_loadRF hH rfl rfl (by omega) tO ?_) | (refine p_loadSF hH rfl rfl tO ?_) | (refine p_loadS hH rfl tW ?_))) | (refine p_neF rfl rfl ?_) | (refine p_eqF rfl rfl ?_))); exact r_nil one_end)) | (apply d_split; exact rfl; exact rfl; exact rfl; exact rfl; exact rfl; intro hg; rotate_left; intro hg; rotate_right) | (apply d_all1; exact rfl; kernel_rfl; exact rfl; exact rfl) | (apply d_all2; exact rfl; kernel_rfl; exact rfl; exact rfl; exact rfl; exact rfl) | (apply d_all3; exact rfl; kernel_rfl; exact rfl; exact rfl; exact rfl; exact rfl; exact rfl; exact rfl))) | refine then_end (hH.sub tSub) ?_)
  all_goals try simp only [Int.toNat_natCast] at *
  · refine e_end (res1 rfl tW) hH ⟨?_, rfl⟩ tTk
    refine congrArg Value.bool ?_
    rw [Hp.tokenP, all_not (i := i) (by omega) (by simp_all)]; rfl
  · exact ⟨i + 1, _, _, by omega, rfl, tAg, by omega, all_step hall (by omega) (by simp_all), hH⟩
  · refine e_end (res1 rfl tW) hH ⟨?_, rfl⟩ tTk
    refine congrArg Value.bool ?_
    rw [Hp.tokenP, all_end hall (by omega)]; cases s <;> rfl

end Go.Proofs.YtiofekhdicfmoaaGreatDoor

/- Facts of the model's entries that errors.As comes to, at a refusal. -/
namespace Go.Proofs.YtiofekhdicfmoaaGreatDoor
open Go Go.RowKit Go.Extern.Stop Go.Stop Go.Extern
theorem x90a (t : Addr) (w : World) : (callFunc 90 #[.iface 131 (.pointer (some t))]).run Tryz.prog w = .ok (.value (.agg #[.pointer (some ⟨9, 131, none⟩), .pointer (some ⟨w.heap.size, 0, none⟩), .int .u64 150])) (w.alloc (.cells #[.pointer (some t)] 131)) := by kernel_rfl
theorem x91 (a : Addr) (w : World) : (callFunc 91 #[.agg #[.pointer (some ⟨9, 131, none⟩), .pointer (some a), .int .u64 150]]).run Tryz.prog w = .ok (.value (.iface 192 (.agg #[.pointer (some ⟨9, 131, none⟩)]))) w := by kernel_rfl
theorem xKind131 (w : World) : (callMethod (.iface 192 (.agg #[.pointer (some ⟨9, 131, none⟩)])) "Kind" #[]).run Tryz.prog w = .ok (.value (.int .u8 22)) w := by kernel_rfl
theorem xKind129 (w : World) : (callMethod (.iface 192 (.agg #[.pointer (some ⟨9, 129, none⟩)])) "Kind" #[]).run Tryz.prog w = .ok (.value (.int .u8 25)) w := by kernel_rfl
theorem xElem (w : World) : (callMethod (.iface 192 (.agg #[.pointer (some ⟨9, 131, none⟩)])) "Elem" #[]).run Tryz.prog w = .ok (.value (.iface 192 (.agg #[.pointer (some ⟨9, 129, none⟩)]))) w := by kernel_rfl
theorem xImpl (w : World) : (callMethod (.iface 192 (.agg #[.pointer (some ⟨9, 129, none⟩)])) "Implements" #[.iface 192 (.agg #[.pointer (some ⟨9, 89, none⟩)])]).run Tryz.prog w = .ok (.value (.bool true)) w := by kernel_rfl
theorem xTypeOf (v : Value) (w : World) : (callFunc 121 #[.iface 129 v]).run Tryz.prog w = .ok (.value (.iface 192 (.agg #[.pointer (some ⟨9, 129, none⟩)]))) w := by kernel_rfl
theorem xTypeOf' (v : Value) (w : World) : (callFunc 121 #[.iface 127 v]).run Tryz.prog w = .ok (.value (.iface 192 (.agg #[.pointer (some ⟨9, 127, none⟩)]))) w := by kernel_rfl
theorem xAss (w : World) : (callMethod (.iface 192 (.agg #[.pointer (some ⟨9, 129, none⟩)])) "AssignableTo" #[.iface 192 (.agg #[.pointer (some ⟨9, 129, none⟩)])]).run Tryz.prog w = .ok (.value (.bool true)) w := by kernel_rfl
theorem xAss' (w : World) : (callMethod (.iface 192 (.agg #[.pointer (some ⟨9, 127, none⟩)])) "AssignableTo" #[.iface 192 (.agg #[.pointer (some ⟨9, 129, none⟩)])]).run Tryz.prog w = .ok (.value (.bool false)) w := by kernel_rfl
theorem x90b (c : Int) (w : World) : (callFunc 90 #[.iface 129 (.agg #[.int .i64 c])]).run Tryz.prog w = .ok (.value (.agg #[.pointer (some ⟨9, 129, none⟩), .pointer (some ⟨w.heap.size, 0, none⟩), .int .u64 153])) (w.alloc (.cells #[.int .i64 c] 129)) := by kernel_rfl
theorem xTA (v : Value) (w : World) : (Instr.typeAssert (.iface 127 v) 89 197 true).run Tryz.prog w = .ok (.tuple #[.nilIface, .bool false]) w := run_typeAssert_lacksB Tryz.underlying197 (by kernel_rfl) (by kernel_rfl) v 89 w
theorem xTB (v : Value) (w : World) : (Instr.typeAssert (.iface 127 v) 89 200 true).run Tryz.prog w = .ok (.tuple #[.iface 127 v, .bool true]) w := by kernel_rfl
theorem xUn (v : Value) (w : World) : (callMethod (.iface 127 v) "Unwrap" #[]).run Tryz.prog w = .ok (.enter 230 #[v]) w := by kernel_rfl
/-! the entries that read or write memory -/
theorem rlm (z : Sem Value) (f : TypeId → Addr → Nat → Nat → Sem Value) (v : Value) :
    ReflectliteValue.method z f #[v] = (do match ← ReflectliteValue.parts v with | none => z | some (t, a, fl) => f t a fl (fl % 32)) := rfl
theorem parts131 (a : Addr) (w : World) : (ReflectliteValue.parts (.agg #[.pointer (some ⟨9, 131, none⟩), .pointer (some a), .int .u64 150])).run Tryz.prog w = .ok (some (131, a, 150)) w := by kernel_rfl
theorem isNil131 (a p : Addr) (W : World) (ha : W.cell? a = some (.pointer (some p))) :
    (ReflectliteValue.method (ReflectliteValue.valueError "reflectlite.Value.IsNil" 0) ReflectliteValue.isNil #[.agg #[.pointer (some ⟨9, 131, none⟩), .pointer (some a), .int .u64 150]]).run Tryz.prog W = .ok (.bool false) W := by
  rw [rlm]
  simp only [Sem.run_bind, parts131, Result.andThen]
  simp [ReflectliteValue.isNil, loadVar, isAgg, underlying, Tryz.underlying131, ha, Result.andThen]
theorem x92 (a p : Addr) (W : World) (ha : W.cell? a = some (.pointer (some p))) : (callFunc 92 #[.agg #[.pointer (some ⟨9, 131, none⟩), .pointer (some a), .int .u64 150]]).run Tryz.prog W = .ok (.value (.bool false)) W := by
  rw [@run_callFunc_extern Tryz.prog 92 _ (ReflectliteValue.method (ReflectliteValue.valueError "reflectlite.Value.IsNil" 0) ReflectliteValue.isNil) Tryz.func92 (by kernel_rfl) (by kernel_rfl) (by kernel_rfl) (by kernel_rfl), isNil131 a p W ha]
  rfl
theorem elemOf131 (w : World) : (Rtype.elem? 131).run Tryz.prog w = .ok (some 129) w := by kernel_rfl
theorem mk129 (p : Addr) (w : World) : (ReflectliteValue.mk 129 p ReflectliteValue.flagAddr).run Tryz.prog w = .ok (.agg #[.pointer (some ⟨9, 129, none⟩), .pointer (some p), .int .u64 409]) w := by kernel_rfl
theorem elemV131 (a p : Addr) (W : World) (ha : W.cell? a = some (.pointer (some p))) :
    (ReflectliteValue.method (ReflectliteValue.valueError "reflectlite.Value.Elem" 0) ReflectliteValue.elem #[.agg #[.pointer (some ⟨9, 131, none⟩), .pointer (some a), .int .u64 150]]).run Tryz.prog W
      = .ok (.agg #[.pointer (some ⟨9, 129, none⟩), .pointer (some p), .int .u64 409]) W := by
  rw [rlm]
  simp only [Sem.run_bind, parts131, Result.andThen]
  simp [ReflectliteValue.elem, loadVar, isAgg, underlying, Tryz.underlying131, ha, Result.andThen, elemOf131, mk129]
theorem x122 (a p : Addr) (W : World) (ha : W.cell? a = some (.pointer (some p))) : (callFunc 122 #[.agg #[.pointer (some ⟨9, 131, none⟩), .pointer (some a), .int .u64 150]]).run Tryz.prog W = .ok (.value (.agg #[.pointer (some ⟨9, 129, none⟩), .pointer (some p), .int .u64 409])) W := by
  rw [@run_callFunc_extern Tryz.prog 122 _ (ReflectliteValue.method (ReflectliteValue.valueError "reflectlite.Value.Elem" 0) ReflectliteValue.elem) Tryz.func122 (by kernel_rfl) (by kernel_rfl) (by kernel_rfl) (by kernel_rfl), elemV131 a p W ha]
  rfl
theorem rls (v x : Value) : ReflectliteValue.set #[v, x] = (do
    let (some (dst, a, fl), some (src, b, _)) := (← ReflectliteValue.parts v, ← ReflectliteValue.parts x)
      | unsupported (.noEntry "extern/(internal/reflectlite.Value).Set.zeroValue")
    if fl / ReflectliteValue.flagAddr % 2 == 0 then unsupported (.noEntry "extern/(internal/reflectlite.Value).Set.unaddressable")
    let val ← loadVar src b
    if ← Rtype.directlyAssignable dst src then storeVar dst a val
    else if ← Rtype.implements dst src then
      if (← Rtype.kind src) == 20 then
        match val with
        | .nilIface => unsupported (.noEntry "extern/reflectlite: a nil value of one interface type handed on as a value of another")
        | _ => storeVar dst a val
      else storeVar dst a (.iface src val)
    else panicString ("reflectlite.Set: value of type " ++ (← Rtype.spelt src) ++ " is not assignable to type " ++ (← Rtype.spelt dst))
    pure (.tuple #[])) := rfl
theorem parts129a (a : Addr) (w : World) : (ReflectliteValue.parts (.agg #[.pointer (some ⟨9, 129, none⟩), .pointer (some a), .int .u64 409])).run Tryz.prog w = .ok (some (129, a, 409)) w := by kernel_rfl
theorem parts129 (a : Addr) (w : World) : (ReflectliteValue.parts (.agg #[.pointer (some ⟨9, 129, none⟩), .pointer (some a), .int .u64 153])).run Tryz.prog w = .ok (some (129, a, 153)) w := by kernel_rfl
theorem direct129 (w : World) : (Rtype.directlyAssignable 129 129).run Tryz.prog w = .ok true w := by kernel_rfl
theorem size129 (w : World) : (sizeOf 129).run Tryz.prog w = .ok 1 w := by kernel_rfl
theorem set129 (ta b : Addr) (c : Int) (old : Value) (W : World) (hb : W.cell? b = some (.int .i64 c)) (ht : W.cell? ta = some old) (hf : W.frozen? ta = false) :
    (ReflectliteValue.set #[.agg #[.pointer (some ⟨9, 129, none⟩), .pointer (some ta), .int .u64 409], .agg #[.pointer (some ⟨9, 129, none⟩), .pointer (some b), .int .u64 153]]).run Tryz.prog W
      = .ok (.tuple #[]) (W.setCell ta (.int .i64 c)) := by
  rw [rls]
  simp only [Sem.run_bind, parts129a, parts129, Result.andThen]
  have hl := run_loadCells_list (P := Tryz.prog) W b [.int .i64 c] (fun j u hu => by
    cases j with
    | zero => simp at hu; subst hu; simpa [Addr.add] using hb
    | succ j => simp at hu)
  simp only [List.length_singleton] at hl
  simp [ReflectliteValue.flagAddr, loadVar, isAgg, underlying, Tryz.underlying129, Result.andThen, size129, hl, direct129, storeVar, Value.cells, storeCells, Addr.add]
  rw [run_store Tryz.prog W ta _ _ (by rfl)]
  simp [ht, hf]
theorem x123 (ta b : Addr) (c : Int) (old : Value) (W : World) (hb : W.cell? b = some (.int .i64 c)) (ht : W.cell? ta = some old) (hf : W.frozen? ta = false) :
    (callFunc 123 #[.agg #[.pointer (some ⟨9, 129, none⟩), .pointer (some ta), .int .u64 409], .agg #[.pointer (some ⟨9, 129, none⟩), .pointer (some b), .int .u64 153]]).run Tryz.prog W = .ok (.value (.tuple #[])) (W.setCell ta (.int .i64 c)) := by
  rw [@run_callFunc_extern Tryz.prog 123 _ ReflectliteValue.set Tryz.func123 (by kernel_rfl) (by kernel_rfl) (by kernel_rfl) (by kernel_rfl), set129 ta b c old W hb ht hf]
  rfl
end Go.Proofs.YtiofekhdicfmoaaGreatDoor

/- The set of the two blanks, as the library makes it. -/
namespace Go.Proofs.YtiofekhdicfmoaaGreatDoor
open Go Go.Hr
def wsS : List Value := (Lib.setCells [32, 9]).toList
theorem wsS_len : wsS.length = 256 := by simp only [wsS, Array.length_toList]; exact Lib.setCells_size _
theorem wsS_one : wsS.all Value.oneCell' = true := by have := Lib.setCells_one [32, 9]; simpa [wsS] using this
theorem wsS_at (c : UInt8) : wsS[c.toNat]? = some (.bool (Hp.blankP c)) := by
  have := Lib.setCells_at [32, 9] c
  simp only [wsS, Array.getElem?_toList, this]
  simp only [Option.some.injEq, Value.bool.injEq]
  rw [Bool.eq_iff_iff]; simp [Hp.blankP]
theorem zero237 (w : World) : (zeroValue 237).run Tryz.prog w = .ok (.agg (Array.replicate 256 (.bool false))) w := by kernel_rfl
theorem ws_ascii : ∀ (j : Nat) (b : UInt8), [(32 : UInt8), 9][j]? = some b → b.toNat < 128
  | 0, b, h => by simp at h; subst h; decide
  | 1, b, h => by simp at h; subst h; decide
  | j + 2, b, h => by simp at h
theorem call167 (w : World) : Calls Tryz.prog 167 #[.string ⟨(List.toArray [32, 9])⟩] w fun e w' => e = .returned (.tuple #[.agg wsS.toArray, .bool true]) ∧ w' = w.alloc (.cells wsS.toArray 237) := by
  have h := Tryz.strings_makeASCIISet zero237 ⟨(List.toArray [32, 9])⟩ w (by show 2 < _; omega) ws_ascii
  simp only [wsS, Array.toArray_toList]
  exact h
end Go.Proofs.YtiofekhdicfmoaaGreatDoor

namespace Go.Proofs.YtiofekhdicfmoaaGreatDoor
open Go Go.Hr
attribute [local irreducible] Go.wpList Go.Code.wp Go.Calls Go.Hr.CallsA Go.wpAnyH Go.callFunc Go.callMethod Go.Instr.typeAssert Go.Sem.run
set_option maxHeartbeats 4000000
set_option linter.all false

/-! ### trimming -/
def trimR (s : List UInt8) : List UInt8 := (Hp.trimL s.reverse).reverse
theorem trimR_cons (c : UInt8) (r : List UInt8) : trimR (c :: r) = if trimR r = [] then (if Hp.blankP c then [] else [c]) else c :: trimR r := by
  unfold trimR Hp.trimL
  rw [List.reverse_cons, List.dropWhile_append]
  by_cases h : (r.reverse.dropWhile Hp.blankP) = []
  · simp only [h, List.isEmpty_nil, if_true, List.reverse_nil]
    by_cases hc : Hp.blankP c <;> simp [List.dropWhile, hc]
  · have : (r.reverse.dropWhile Hp.blankP).isEmpty = false := by simpa using h
    simp [this, h]
theorem trim_eq' (s : List UInt8) : Hp.trimL (trimR s) = trimR (Hp.trimL s) := by
  induction s with
  | nil => rfl
  | cons c r ih =>
    rw [trimR_cons]
    by_cases hc : Hp.blankP c
    · have h1 : Hp.trimL (c :: r) = Hp.trimL r := by simp [Hp.trimL, List.dropWhile, hc]
      rw [h1]
      by_cases h : trimR r = []
      · rw [if_pos h, if_pos hc]; rw [h] at ih; exact ih
      · rw [if_neg h]
        have h2 : Hp.trimL (c :: trimR r) = Hp.trimL (trimR r) := by simp [Hp.trimL, List.dropWhile, hc]
        rw [h2, ih]
    · have h1 : ∀ r, Hp.trimL (c :: r) = c :: r := fun r => by simp [Hp.trimL, List.dropWhile, hc]
      rw [h1, trimR_cons]
      by_cases h : trimR r = []
      · simp [h, hc, h1]
      · simp [h, h1]
theorem trim_eq (s : List UInt8) : Hp.trimL (trimR s) = Hp.trimP s := trim_eq' s
theorem trimL_step (s : List UInt8) (h : s ≠ []) : Hp.trimL s = if Hp.blankP (s.getD 0 0) then Hp.trimL (s.drop 1) else s := by
  cases s with
  | nil => exact absurd rfl h
  | cons c r => by_cases hc : Hp.blankP c <;> simp [Hp.trimL, List.dropWhile, hc]
theorem trimR_step (s : List UInt8) (h : s ≠ []) : trimR s = if Hp.blankP (s.getD (s.length - 1) 0) then trimR (s.take (s.length - 1)) else s := by
  obtain ⟨r, c, rfl⟩ : ∃ r c, s = r ++ [c] := ⟨s.dropLast, s.getLast h, (List.dropLast_concat_getLast h).symm⟩
  by_cases hc : Hp.blankP c <;> simp [trimR, Hp.trimL, List.dropWhile, hc]
theorem trimR_len (s : List UInt8) : (trimR s).length ≤ s.length := by
  simp only [trimR, List.length_reverse, Hp.trimL]
  have := (List.dropWhile_sublist (l := s.reverse) Hp.blankP).length_le
  simpa using this
section
variable {P : Program} {ops rest : List Oper} {Q : Exit → Act → World → Prop} {n : Nat} {l : List (Nat × Value)} {f : Nat → Value} {w w0 : World}
  {ty : TypeId} {pos : String} {aft : Array Edge} {D : List Nat} {R : List Ro} {H H' : List Own} {x y : Operand} {t bt : TypeId} {z : Value} {g sz by_ : Nat} {cs vs : List Value}
theorem p_storeW [hi : In P t z sz by_] (hH : Holds w0 D w R H) (hx : ev n l f x = .pointer (some ⟨g, 0, none⟩)) (hy : ev n l f y = .agg wsS.toArray) (hn : wsS.length = sz) [s : SelP H g bt cs H'] (hl : cs.length = 256)
    (k : ∀ w', Holds w0 D w' R (.pt g bt wsS :: H') → wpList P ops.toArray Q rest (A n l f) w') :
    wpList P ops.toArray Q (⟨none, .store t x y, ty, pos, aft, none⟩ :: rest) (A n l f) w :=
  p_storeA (vs := wsS) hH hx hy wsS_one hn (by rw [wsS_len, hl]; omega) (by
    have : cs.take 0 ++ wsS ++ cs.drop (0 + wsS.length) = wsS := by rw [wsS_len, Nat.zero_add, ← hl]; simp
    rw [this]; exact k)
end
theorem c167 : CallsA Tryz.prog 167 (List.toArray [.string ⟨(List.toArray [32, 9])⟩]) [] [] (fun v H' => v = .tuple (List.toArray [.agg wsS.toArray, .bool true]) ∧ H' = []) := by
  unfold CallsA
  intro w hw
  refine (call167 w).mono fun e w' he => ?_
  obtain ⟨he, rfl⟩ := he
  exact ⟨_, [], he, ⟨rfl, rfl⟩, (hw.alloc wsS 237).drop⟩
theorem c188 (b : Nat) (c : UInt8) : CallsA Tryz.prog 188 (List.toArray [.pointer (some ⟨b, 0, none⟩), .int .u8 (c.toNat : Int)]) [] [.pt b 237 wsS] (fun v H' => v = .bool (Hp.blankP c) ∧ H' = [.pt b 237 wsS]) := by
  unfold CallsA
  intro w hw
  refine (Tryz.asciiSet_contains b c (Hp.blankP c) w (cell_pt hw (.here _ _) (wsS_at c))).mono fun e w' he => ?_
  obtain ⟨he, rfl⟩ := he
  exact ⟨_, _, he, ⟨rfl, rfl⟩, hw⟩
theorem c168 (b : Nat) (s : List UInt8) (hs : s.length ≤ 1099511627776) : CallsA Tryz.prog 168 (List.toArray [.string ⟨s.toArray⟩, .pointer (some ⟨b, 0, none⟩)]) [] [.pt b 237 wsS] (fun v H' => v = .string ⟨(Hp.trimL s).toArray⟩ ∧ H' = [.pt b 237 wsS]) := by
  refine callsA_of (args := [_, _]) Tryz.func168 rfl Tryz.ntmps168 (by simp) ?_
  intro w0 hH
  repeat' (first | (refine p_storeW hH rfl rfl wsS_len rfl (fun w hH => ?_)) | refine stp ?_ | (refine g_guard ?_; (first | refine r_guardD rfl rfl rfl (fun hg hp => ?_) (fun hg hp => ?_) | refine r_guard rfl rfl rfl (fun hg => ?_) (fun hg => ?_))) | (refine g_load ?_; (first | (refine p_loadSB hH rfl rfl tO ?_) | (refine p_loadRB hH rfl rfl (by omega) tO ?_) | (refine p_loadS hH rfl tW ?_))) | (refine g_call ?_; (first | (refine p_appendL hH rfl rfl (Reads1.own (v := .nilIface) (Sel.mem tSel)) rfl rfl rfl tO rfl (fun vb vc w hH => ?_)))) | refine n_buildSlice1 hH tE rfl rfl rfl rfl tN (fun g w hg hH => ?_) | (refine r_toInt Tryz.underlying183 Tryz.underlying3 rfl (wrap_small (by omega)) ?_) | (refine p_toTextS hH rfl rfl tO rfl ?_) | (refine g_store ?_; (first | refine n_store hH rfl tE rfl rfl tN (fun w hH => ?_) | refine n_storeA hH rfl rfl rfl rfl rfl tN (fun w hH => ?_))) | refine n_alloc hH tW (fun g w hg hH => ?_) | (refine g_box ?_; (first | refine p_boxA hH rfl (fun g w hg hH => ?_) | refine p_boxI hH rfl (fun g w hg hH => ?_) | refine p_boxL hH rfl (fun g w hg hH => ?_))) | (refine g_cond ?_; (first | refine c_condD rfl (fun hc hp => ?_) (fun hc hp => ?_) | refine c_cond rfl (fun hc => ?_) (fun hc => ?_))) | refine d_start (P := Tryz.prog) hH (fun hH => ?_) | (refine g_any ?_; (first | (apply d_done; exact rfl; kernel_rfl) | (apply d_next; exact rfl; exact rfl; exact rfl; kernel_rfl; (first | (simp only [falses, setB]; exact rfl) | exact rfl); exact hH.sub tSub; (intro w hH; (repeat (first | refine stpO ?_ | (refine g_load ?_; (first | (refine p_loadS hH rfl tW ?_))))); exact r_nil one_end)) | (apply d_split; exact rfl; exact rfl; exact rfl; exact rfl; exact rfl; intro hg; rotate_left; intro hg; rotate_right) | (apply d_all1; exact rfl; kernel_rfl; exact rfl; exact rfl) | (apply d_all2; exact rfl; kernel_rfl; exact rfl; exact rfl; exact rfl; exact rfl) | (apply d_all3; exact rfl; kernel_rfl; exact rfl; exact rfl; exact rfl; exact rfl; exact rfl; exact rfl))) | refine then_end (hH.sub tSub) ?_)
  refine c_loopS (fun r : List UInt8 => [(0, .string ⟨r.toArray⟩), (1, .pointer (some ⟨b, 0, none⟩))]) (fun r w => r.length ≤ s.length ∧ Hp.trimL r = Hp.trimL s ∧ Holds w0 (bl [.pt b 237 wsS]) w [] [.pt b 237 wsS]) (fun r => r.length) s tAg ⟨by omega, rfl, hH⟩ (fun r f w hI => ?_)
  obtain ⟨hr, hall, hH⟩ := hI
  repeat' (first | (refine p_storeW hH rfl rfl wsS_len rfl (fun w hH => ?_)) | refine stp ?_ | (refine g_guard ?_; (first | refine r_guardD rfl rfl rfl (fun hg hp => ?_) (fun hg hp => ?_) | refine r_guard rfl rfl rfl (fun hg => ?_) (fun hg => ?_))) | (refine g_load ?_; (first | (refine p_loadSB hH rfl rfl tO ?_) | (refine p_loadRB hH rfl rfl (by omega) tO ?_) | (refine p_loadS hH rfl tW ?_))) | (refine g_call ?_; (first | (refine k_call (g := 188) Tryz.func188 rfl rfl hH (EvL.cons (EvK.any rfl) (EvL.cons (EvK.any rfl) EvL.nil)) (c188 _ _) tTk tRd (fun v H1 w hT hH => ?_); obtain ⟨rfl, rfl⟩ := hT; simp only [List.nil_append, List.cons_append] at hH) | (refine p_appendL hH rfl rfl (Reads1.own (v := .nilIface) (Sel.mem tSel)) rfl rfl rfl tO rfl (fun vb vc w hH => ?_)))) | refine n_buildSlice1 hH tE rfl rfl rfl rfl tN (fun g w hg hH => ?_) | (refine r_toInt Tryz.underlying183 Tryz.underlying3 rfl (wrap_small (by omega)) ?_) | (refine p_toTextS hH rfl rfl tO rfl ?_) | (refine g_store ?_; (first | refine n_store hH rfl tE rfl rfl tN (fun w hH => ?_) | refine n_storeA hH rfl rfl rfl rfl rfl tN (fun w hH => ?_))) | refine n_alloc hH tW (fun g w hg hH => ?_) | (refine g_box ?_; (first | refine p_boxA hH rfl (fun g w hg hH => ?_) | refine p_boxI hH rfl (fun g w hg hH => ?_) | refine p_boxL hH rfl (fun g w hg hH => ?_))) | (refine g_cond ?_; (first | refine c_condD rfl (fun hc hp => ?_) (fun hc hp => ?_) | refine c_cond rfl (fun hc => ?_) (fun hc => ?_))) | refine d_start (P := Tryz.prog) hH (fun hH => ?_) | (refine g_any ?_; (first | (apply d_done; exact rfl; kernel_rfl) | (apply d_next; exact rfl; exact rfl; exact rfl; kernel_rfl; (first | (simp only [falses, setB]; exact rfl) | exact rfl); exact hH.sub tSub; (intro w hH; (repeat (first | refine stpO ?_ | (refine g_load ?_; (first | (refine p_loadS hH rfl tW ?_))))); exact r_nil one_end)) | (apply d_split; exact rfl; exact rfl; exact rfl; exact rfl; exact rfl; intro hg; rotate_left; intro hg; rotate_right) | (apply d_all1; exact rfl; kernel_rfl; exact rfl; exact rfl) | (apply d_all2; exact rfl; kernel_rfl; exact rfl; exact rfl; exact rfl; exact rfl) | (apply d_all3; exact rfl; kernel_rfl; exact rfl; exact rfl; exact rfl; exact rfl; exact rfl; exact rfl))) | refine then_end (hH.sub tSub) ?_)
  · refine e_end (res1 rfl tW) hH ⟨?_, rfl⟩ tTk
    have hne : r ≠ [] := by intro h; subst h; simp at hp
    rw [← hall, trimL_step r hne, if_neg (by simpa [-List.getD_eq_getElem?_getD] using hc)]
  · have hne : r ≠ [] := by intro h; subst h; simp at hp
    have hlen : 0 < r.length := List.length_pos_iff.2 hne
    exact ⟨r.drop 1, _, _, by simp; omega, rfl, tAg, by simp; omega, by rw [← hall, trimL_step r hne, if_pos (by simpa [-List.getD_eq_getElem?_getD] using hc)], hH⟩
  · refine e_end (res1 rfl tW) hH ⟨?_, rfl⟩ tTk
    have hne : r = [] := by cases r with | nil => rfl | cons a b => exact absurd hp (by simp)
    rw [← hall, hne]; rfl
theorem c169 (b : Nat) (s : List UInt8) (hs : s.length ≤ 1099511627776) : CallsA Tryz.prog 169 (List.toArray [.string ⟨s.toArray⟩, .pointer (some ⟨b, 0, none⟩)]) [] [.pt b 237 wsS] (fun v H' => v = .string ⟨(trimR s).toArray⟩ ∧ H' = [.pt b 237 wsS]) := by
  refine callsA_of (args := [_, _]) Tryz.func169 rfl Tryz.ntmps169 (by simp) ?_
  intro w0 hH
  repeat' (first | (refine p_storeW hH rfl rfl wsS_len rfl (fun w hH => ?_)) | refine stp ?_ | (refine g_guard ?_; (first | refine r_guardD rfl rfl rfl (fun hg hp => ?_) (fun hg hp => ?_) | refine r_guard rfl rfl rfl (fun hg => ?_) (fun hg => ?_))) | (refine g_load ?_; (first | (refine p_loadSB hH rfl rfl tO ?_) | (refine p_loadRB hH rfl rfl (by omega) tO ?_) | (refine p_loadS hH rfl tW ?_))) | (refine g_call ?_; (first | (refine p_appendL hH rfl rfl (Reads1.own (v := .nilIface) (Sel.mem tSel)) rfl rfl rfl tO rfl (fun vb vc w hH => ?_)))) | refine n_buildSlice1 hH tE rfl rfl rfl rfl tN (fun g w hg hH => ?_) | (refine r_toInt Tryz.underlying183 Tryz.underlying3 rfl (wrap_small (by omega)) ?_) | (refine p_toTextS hH rfl rfl tO rfl ?_) | (refine g_store ?_; (first | refine n_store hH rfl tE rfl rfl tN (fun w hH => ?_) | refine n_storeA hH rfl rfl rfl rfl rfl tN (fun w hH => ?_))) | refine n_alloc hH tW (fun g w hg hH => ?_) | (refine g_box ?_; (first | refine p_boxA hH rfl (fun g w hg hH => ?_) | refine p_boxI hH rfl (fun g w hg hH => ?_) | refine p_boxL hH rfl (fun g w hg hH => ?_))) | (refine g_cond ?_; (first | refine c_condD rfl (fun hc hp => ?_) (fun hc hp => ?_) | refine c_cond rfl (fun hc => ?_) (fun hc => ?_))) | refine d_start (P := Tryz.prog) hH (fun hH => ?_) | (refine g_any ?_; (first | (apply d_done; exact rfl; kernel_rfl) | (apply d_next; exact rfl; exact rfl; exact rfl; kernel_rfl; (first | (simp only [falses, setB]; exact rfl) | exact rfl); exact hH.sub tSub; (intro w hH; (repeat (first | refine stpO ?_ | (refine g_load ?_; (first | (refine p_loadS hH rfl tW ?_))))); exact r_nil one_end)) | (apply d_split; exact rfl; exact rfl; exact rfl; exact rfl; exact rfl; intro hg; rotate_left; intro hg; rotate_right) | (apply d_all1; exact rfl; kernel_rfl; exact rfl; exact rfl) | (apply d_all2; exact rfl; kernel_rfl; exact rfl; exact rfl; exact rfl; exact rfl) | (apply d_all3; exact rfl; kernel_rfl; exact rfl; exact rfl; exact rfl; exact rfl; exact rfl; exact rfl))) | refine then_end (hH.sub tSub) ?_)
  refine c_loopS (fun r : List UInt8 => [(0, .string ⟨r.toArray⟩), (1, .pointer (some ⟨b, 0, none⟩))]) (fun r w => r.length ≤ s.length ∧ trimR r = trimR s ∧ Holds w0 (bl [.pt b 237 wsS]) w [] [.pt b 237 wsS]) (fun r => r.length) s tAg ⟨by omega, rfl, hH⟩ (fun r f w hI => ?_)
  obtain ⟨hr, hall, hH⟩ := hI
  repeat' (first | (refine p_storeW hH rfl rfl wsS_len rfl (fun w hH => ?_)) | refine stp ?_ | (refine g_guard ?_; (first | refine r_guardD rfl rfl rfl (fun hg hp => ?_) (fun hg hp => ?_) | refine r_guard rfl rfl rfl (fun hg => ?_) (fun hg => ?_))) | (refine g_load ?_; (first | (refine p_loadSB hH rfl rfl tO ?_) | (refine p_loadRB hH rfl rfl (by omega) tO ?_) | (refine p_loadS hH rfl tW ?_))) | (refine g_call ?_; (first | (refine k_call (g := 188) Tryz.func188 rfl rfl hH (EvL.cons (EvK.any rfl) (EvL.cons (EvK.any rfl) EvL.nil)) (c188 _ _) tTk tRd (fun v H1 w hT hH => ?_); obtain ⟨rfl, rfl⟩ := hT; simp only [List.nil_append, List.cons_append] at hH) | (refine p_appendL hH rfl rfl (Reads1.own (v := .nilIface) (Sel.mem tSel)) rfl rfl rfl tO rfl (fun vb vc w hH => ?_)))) | refine n_buildSlice1 hH tE rfl rfl rfl rfl tN (fun g w hg hH => ?_) | (refine r_toInt Tryz.underlying183 Tryz.underlying3 rfl (wrap_small (by omega)) ?_) | (refine p_toTextS hH rfl rfl tO rfl ?_) | (refine g_store ?_; (first | refine n_store hH rfl tE rfl rfl tN (fun w hH => ?_) | refine n_storeA hH rfl rfl rfl rfl rfl tN (fun w hH => ?_))) | refine n_alloc hH tW (fun g w hg hH => ?_) | (refine g_box ?_; (first | refine p_boxA hH rfl (fun g w hg hH => ?_) | refine p_boxI hH rfl (fun g w hg hH => ?_) | refine p_boxL hH rfl (fun g w hg hH => ?_))) | (refine g_cond ?_; (first | refine c_condD rfl (fun hc hp => ?_) (fun hc hp => ?_) | refine c_cond rfl (fun hc => ?_) (fun hc => ?_))) | refine d_start (P := Tryz.prog) hH (fun hH => ?_) | (refine g_any ?_; (first | (apply d_done; exact rfl; kernel_rfl) | (apply d_next; exact rfl; exact rfl; exact rfl; kernel_rfl; (first | (simp only [falses, setB]; exact rfl) | exact rfl); exact hH.sub tSub; (intro w hH; (repeat (first | refine stpO ?_ | (refine g_load ?_; (first | (refine p_loadS hH rfl tW ?_))))); exact r_nil one_end)) | (apply d_split; exact rfl; exact rfl; exact rfl; exact rfl; exact rfl; intro hg; rotate_left; intro hg; rotate_right) | (apply d_all1; exact rfl; kernel_rfl; exact rfl; exact rfl) | (apply d_all2; exact rfl; kernel_rfl; exact rfl; exact rfl; exact rfl; exact rfl) | (apply d_all3; exact rfl; kernel_rfl; exact rfl; exact rfl; exact rfl; exact rfl; exact rfl; exact rfl))) | refine then_end (hH.sub tSub) ?_)
  · refine e_end (res1 rfl tW) hH ⟨?_, rfl⟩ tTk
    have hne : r ≠ [] := by intro h; subst h; simp at hp
    have e : ((r.length : Int) - 1).toNat = r.length - 1 := by omega
    rw [e] at hc
    rw [← hall, trimR_step r hne, if_neg (by simpa [-List.getD_eq_getElem?_getD] using hc)]
  · have hne : r ≠ [] := by intro h; subst h; simp at hp
    have hlen : 0 < r.length := List.length_pos_iff.2 hne
    have e : ((r.length : Int) - 1).toNat = r.length - 1 := by omega
    rw [e] at hc
    exact ⟨r.take ((r.length : Int) - 1).toNat, _, _, by rw [e]; simp; omega, rfl, tAg, by rw [e]; simp; omega, by rw [e, ← hall, trimR_step r hne, if_pos (by simpa [-List.getD_eq_getElem?_getD] using hc)], hH⟩
  · refine e_end (res1 rfl tW) hH ⟨?_, rfl⟩ tTk
    have hne : r = [] := by cases r with | nil => rfl | cons a b => exact absurd hp (by simp)
    rw [← hall, hne]; rfl
set_option maxRecDepth 20000 in
theorem c146 (s : List UInt8) (hs : s.length ≤ 1099511627776) : CallsA Tryz.prog 146 (List.toArray [.string ⟨s.toArray⟩, .string ⟨(List.toArray [32, 9])⟩]) [] [] (fun v H' => v = .string ⟨(Hp.trimP s).toArray⟩ ∧ H' = []) := by
  refine callsA_of (args := [_, _]) Tryz.func146 rfl Tryz.ntmps146 (by simp) ?_
  intro w0 hH
  repeat' (first | (refine p_storeW hH rfl rfl wsS_len rfl (fun w hH => ?_)) | refine stp ?_ | (refine g_guard ?_; (first | refine r_guardD rfl rfl rfl (fun hg hp => ?_) (fun hg hp => ?_) | refine r_guard rfl rfl rfl (fun hg => ?_) (fun hg => ?_))) | (refine g_load ?_; (first | (refine p_loadSB hH rfl rfl tO ?_) | (refine p_loadRB hH rfl rfl (by omega) tO ?_) | (refine p_loadS hH rfl tW ?_))) | (refine g_call ?_; (first | (refine k_call (g := 167) Tryz.func167 rfl rfl hH (EvL.cons (EvK.any rfl) EvL.nil) (c167) tTk tRd (fun v H1 w hT hH => ?_); obtain ⟨rfl, rfl⟩ := hT; simp only [List.nil_append, List.cons_append] at hH) | (refine k_call (g := 169) Tryz.func169 rfl rfl hH (EvL.cons (EvK.any rfl) (EvL.cons (EvK.any rfl) EvL.nil)) (c169 _ _ hs) tTk tRd (fun v H1 w hT hH => ?_); obtain ⟨rfl, rfl⟩ := hT; simp only [List.nil_append, List.cons_append] at hH) | (refine k_call (g := 168) Tryz.func168 rfl rfl hH (EvL.cons (EvK.any rfl) (EvL.cons (EvK.any rfl) EvL.nil)) (c168 _ _ (Nat.le_trans (trimR_len s) hs)) tTk tRd (fun v H1 w hT hH => ?_); obtain ⟨rfl, rfl⟩ := hT; simp only [List.nil_append, List.cons_append] at hH) | (refine p_appendL hH rfl rfl (Reads1.own (v := .nilIface) (Sel.mem tSel)) rfl rfl rfl tO rfl (fun vb vc w hH => ?_)))) | refine n_buildSlice1 hH tE rfl rfl rfl rfl tN (fun g w hg hH => ?_) | (refine r_toInt Tryz.underlying183 Tryz.underlying3 rfl (wrap_small (by omega)) ?_) | (refine p_toTextS hH rfl rfl tO rfl ?_) | (refine g_store ?_; (first | refine n_store hH rfl tE rfl rfl tN (fun w hH => ?_) | refine n_storeA hH rfl rfl rfl rfl rfl tN (fun w hH => ?_))) | refine n_alloc hH tW (fun g w hg hH => ?_) | (refine g_box ?_; (first | refine p_boxA hH rfl (fun g w hg hH => ?_) | refine p_boxI hH rfl (fun g w hg hH => ?_) | refine p_boxL hH rfl (fun g w hg hH => ?_))) | (refine g_cond ?_; (first | refine c_condD rfl (fun hc hp => ?_) (fun hc hp => ?_) | refine c_cond rfl (fun hc => ?_) (fun hc => ?_))) | refine d_start (P := Tryz.prog) hH (fun hH => ?_) | (refine g_any ?_; (first | (apply d_done; exact rfl; kernel_rfl) | (apply d_next; exact rfl; exact rfl; exact rfl; kernel_rfl; (first | (simp only [falses, setB]; exact rfl) | exact rfl); exact hH.sub tSub; (intro w hH; (repeat (first | refine stpO ?_ | (refine g_load ?_; (first | (refine p_loadS hH rfl tW ?_))))); exact r_nil one_end)) | (apply d_split; exact rfl; exact rfl; exact rfl; exact rfl; exact rfl; intro hg; rotate_left; intro hg; rotate_right) | (apply d_all1; exact rfl; kernel_rfl; exact rfl; exact rfl) | (apply d_all2; exact rfl; kernel_rfl; exact rfl; exact rfl; exact rfl; exact rfl) | (apply d_all3; exact rfl; kernel_rfl; exact rfl; exact rfl; exact rfl; exact rfl; exact rfl; exact rfl))) | refine then_end (hH.sub tSub) ?_)
  all_goals refine e_end (res1 rfl tW) hH ⟨?_, rfl⟩ tTk
  · cases s with
    | nil => rfl
    | cons a b => simp_all
  · rw [trim_eq]
theorem c116 (s : List UInt8) (hs : s.length ≤ 1099511627776) : CallsA Tryz.prog 116 (List.toArray [.string ⟨s.toArray⟩]) [] [] (fun v H' => v = .string ⟨(Hp.trimP s).toArray⟩ ∧ H' = []) := by
  refine callsA_of (args := [_]) Tryz.func116 rfl Tryz.ntmps116 (by simp) ?_
  intro w0 hH
  repeat' (first | (refine p_storeW hH rfl rfl wsS_len rfl (fun w hH => ?_)) | refine stp ?_ | (refine g_guard ?_; (first | refine r_guardD rfl rfl rfl (fun hg hp => ?_) (fun hg hp => ?_) | refine r_guard rfl rfl rfl (fun hg => ?_) (fun hg => ?_))) | (refine g_load ?_; (first | (refine p_loadSB hH rfl rfl tO ?_) | (refine p_loadRB hH rfl rfl (by omega) tO ?_) | (refine p_loadS hH rfl tW ?_))) | (refine g_call ?_; (first | (refine k_call (g := 146) Tryz.func146 rfl rfl hH (EvL.cons (EvK.any rfl) (EvL.cons (EvK.any rfl) EvL.nil)) (c146 _ hs) tTk tRd (fun v H1 w hT hH => ?_); obtain ⟨rfl, rfl⟩ := hT; simp only [List.nil_append, List.cons_append] at hH) | (refine p_appendL hH rfl rfl (Reads1.own (v := .nilIface) (Sel.mem tSel)) rfl rfl rfl tO rfl (fun vb vc w hH => ?_)))) | refine n_buildSlice1 hH tE rfl rfl rfl rfl tN (fun g w hg hH => ?_) | (refine r_toInt Tryz.underlying183 Tryz.underlying3 rfl (wrap_small (by omega)) ?_) | (refine p_toTextS hH rfl rfl tO rfl ?_) | (refine g_store ?_; (first | refine n_store hH rfl tE rfl rfl tN (fun w hH => ?_) | refine n_storeA hH rfl rfl rfl rfl rfl tN (fun w hH => ?_))) | refine n_alloc hH tW (fun g w hg hH => ?_) | (refine g_box ?_; (first | refine p_boxA hH rfl (fun g w hg hH => ?_) | refine p_boxI hH rfl (fun g w hg hH => ?_) | refine p_boxL hH rfl (fun g w hg hH => ?_))) | (refine g_cond ?_; (first | refine c_condD rfl (fun hc hp => ?_) (fun hc hp => ?_) | refine c_cond rfl (fun hc => ?_) (fun hc => ?_))) | refine d_start (P := Tryz.prog) hH (fun hH => ?_) | (refine g_any ?_; (first | (apply d_done; exact rfl; kernel_rfl) | (apply d_next; exact rfl; exact rfl; exact rfl; kernel_rfl; (first | (simp only [falses, setB]; exact rfl) | exact rfl); exact hH.sub tSub; (intro w hH; (repeat (first | refine stpO ?_ | (refine g_load ?_; (first | (refine p_loadS hH rfl tW ?_))))); exact r_nil one_end)) | (apply d_split; exact rfl; exact rfl; exact rfl; exact rfl; exact rfl; intro hg; rotate_left; intro hg; rotate_right) | (apply d_all1; exact rfl; kernel_rfl; exact rfl; exact rfl) | (apply d_all2; exact rfl; kernel_rfl; exact rfl; exact rfl; exact rfl; exact rfl) | (apply d_all3; exact rfl; kernel_rfl; exact rfl; exact rfl; exact rfl; exact rfl; exact rfl; exact rfl))) | refine then_end (hH.sub tSub) ?_)
  all_goals refine e_end (res1 rfl tW) hH ⟨?_, rfl⟩ tTk
  all_goals rfl
theorem vchar_eq (c : UInt8) : Hp.vcharP c = (!((decide ((c.toNat:Int) < 32) && decide ((c.toNat:Int) ≠ 9)) || decide ((c.toNat:Int) = 127))) := by
  have h (a b : UInt8) : decide (a < b) = decide ((a.toNat : Int) < b.toNat) := by simp [UInt8.lt_iff_toNat_lt]
  have h2 (b : UInt8) : (c == b) = decide ((c.toNat : Int) = b.toNat) := by
    rw [Bool.eq_iff_iff]; simp [← UInt8.toNat_inj]; omega
  have h3 (b : UInt8) : (c != b) = decide ((c.toNat : Int) ≠ b.toNat) := by
    rw [Bool.eq_iff_iff]; simp [← UInt8.toNat_inj]; omega
  simp only [Hp.vcharP, h, h2, h3]; rfl
theorem c84 (s : List UInt8) (hs : s.length ≤ 1099511627776) : CallsA Tryz.prog 84 (List.toArray [.string ⟨s.toArray⟩]) [] [] (fun v H' => v = .bool (Hp.valueP s) ∧ H' = []) := by
  refine callsA_of (args := [_]) Tryz.func84 rfl Tryz.ntmps84 (by simp) ?_
  intro w0 hH
  repeat' (first | refine stp ?_ | (refine g_guard ?_; (first | refine r_guardD rfl rfl rfl (fun hg hp => ?_) (fun hg hp => ?_) | refine r_guard rfl rfl rfl (fun hg => ?_) (fun hg => ?_))) | (refine g_load ?_; (first | (refine p_loadSB hH rfl rfl tO ?_) | (refine p_loadRB hH rfl rfl (by omega) tO ?_) | (refine p_loadS hH rfl tW ?_))) | (refine g_call ?_; (first | (refine p_appendL hH rfl rfl (Reads1.own (v := .nilIface) (Sel.mem tSel)) rfl rfl rfl tO rfl (fun vb vc w hH => ?_)))) | refine n_buildSlice1 hH tE rfl rfl rfl rfl tN (fun g w hg hH => ?_) | (refine r_toInt Tryz.underlying183 Tryz.underlying3 rfl (wrap_small (by omega)) ?_) | (refine p_toTextS hH rfl rfl tO rfl ?_) | (refine g_store ?_; (first | refine n_store hH rfl tE rfl rfl tN (fun w hH => ?_) | refine n_storeA hH rfl rfl rfl rfl rfl tN (fun w hH => ?_))) | refine n_alloc hH tW (fun g w hg hH => ?_) | (refine g_box ?_; (first | refine p_boxA hH rfl (fun g w hg hH => ?_) | refine p_boxI hH rfl (fun g w hg hH => ?_) | refine p_boxL hH rfl (fun g w hg hH => ?_))) | (refine g_cond ?_; (first | refine c_condD rfl (fun hc hp => ?_) (fun hc hp => ?_) | refine c_cond rfl (fun hc => ?_) (fun hc => ?_))) | refine d_start (P := Tryz.prog) hH (fun hH => ?_) | (refine g_any ?_; (first | (apply d_done; exact rfl; kernel_rfl) | (apply d_next; exact rfl; exact rfl; exact rfl; kernel_rfl; (first | (simp only [falses, setB]; exact rfl) | exact rfl); exact hH.sub tSub; (intro w hH; (repeat (first | refine stpO ?_ | (refine g_load ?_; (first | (refine p_loadS hH rfl tW ?_))))); exact r_nil one_end)) | (apply d_split; exact rfl; exact rfl; exact rfl; exact rfl; exact rfl; intro hg; rotate_left; intro hg; rotate_right) | (apply d_all1; exact rfl; kernel_rfl; exact rfl; exact rfl) | (apply d_all2; exact rfl; kernel_rfl; exact rfl; exact rfl; exact rfl; exact rfl) | (apply d_all3; exact rfl; kernel_rfl; exact rfl; exact rfl; exact rfl; exact rfl; exact rfl; exact rfl))) | refine then_end (hH.sub tSub) ?_)
  refine c_loopS (fun i : Nat => [(0, .string ⟨s.toArray⟩), (6, .int .i64 (s.length : Int)), (7, .int .i64 (i : Int))]) (fun i w => i ≤ s.length ∧ (s.take i).all Hp.vcharP = true ∧ Holds w0 (bl []) w [] []) (fun i => s.length - i) 0 tAg ⟨by omega, rfl, hH⟩ (fun i f w hI => ?_)
  obtain ⟨hi, hall, hH⟩ := hI
  repeat' (first | refine stp ?_ | (refine g_guard ?_; (first | refine r_guardD rfl rfl rfl (fun hg hp => ?_) (fun hg hp => ?_) | refine r_guard rfl rfl rfl (fun hg => ?_) (fun hg => ?_))) | (refine g_load ?_; (first | (refine p_loadSB hH rfl rfl tO ?_) | (refine p_loadRB hH rfl rfl (by omega) tO ?_) | (refine p_loadS hH rfl tW ?_))) | (refine g_call ?_; (first | (refine k_call (g := 116) Tryz.func116 rfl rfl hH (EvL.cons (EvK.any rfl) EvL.nil) (c116 _ hs) tTk tRd (fun v H1 w hT hH => ?_); obtain ⟨rfl, rfl⟩ := hT; simp only [List.nil_append, List.cons_append] at hH) | (refine p_appendL hH rfl rfl (Reads1.own (v := .nilIface) (Sel.mem tSel)) rfl rfl rfl tO rfl (fun vb vc w hH => ?_)))) | refine n_buildSlice1 hH tE rfl rfl rfl rfl tN (fun g w hg hH => ?_) | (refine r_toInt Tryz.underlying183 Tryz.underlying3 rfl (wrap_small (by omega)) ?_) | (refine p_toTextS hH rfl rfl tO rfl ?_) | (refine g_store ?_; (first | refine n_store hH rfl tE rfl rfl tN (fun w hH => ?_) | refine n_storeA hH rfl rfl rfl rfl rfl tN (fun w hH => ?_))) | refine n_alloc hH tW (fun g w hg hH => ?_) | (refine g_box ?_; (first | refine p_boxA hH rfl (fun g w hg hH => ?_) | refine p_boxI hH rfl (fun g w hg hH => ?_) | refine p_boxL hH rfl (fun g w hg hH => ?_))) | (refine g_cond ?_; (first | refine c_condD rfl (fun hc hp => ?_) (fun hc hp => ?_) | refine c_cond rfl (fun hc => ?_) (fun hc => ?_))) | refine d_start (P := Tryz.prog) hH (fun hH => ?_) | (refine g_any ?_; (first | (apply d_done; exact rfl; kernel_rfl) | (apply d_next; exact rfl; exact rfl; exact rfl; kernel_rfl; (first | (simp only [falses, setB]; exact rfl) | exact rfl); exact hH.sub tSub; (intro w hH; (repeat (first | refine stpO ?_ | (refine g_load ?_; (first | (refine p_loadS hH rfl tW ?_))))); exact r_nil one_end)) | (apply d_split; exact rfl; exact rfl; exact rfl; exact rfl; exact rfl; intro hg; rotate_left; intro hg; rotate_right) | (apply d_all1; exact rfl; kernel_rfl; exact rfl; exact rfl) | (apply d_all2; exact rfl; kernel_rfl; exact rfl; exact rfl; exact rfl; exact rfl) | (apply d_all3; exact rfl; kernel_rfl; exact rfl; exact rfl; exact rfl; exact rfl; exact rfl; exact rfl))) | refine then_end (hH.sub tSub) ?_)
  all_goals try simp only [Int.toNat_natCast] at *
  all_goals first
    | (refine e_end (res1 rfl tW) hH ⟨?_, rfl⟩ tTk; refine congrArg Value.bool ?_; rw [Hp.valueP, all_not (i := i) (by omega) (by rw [vchar_eq]; simp [-List.getD_eq_getElem?_getD]; omega)]; rfl)
    | exact ⟨i + 1, _, _, by omega, rfl, tAg, by omega, all_step hall (by omega) (by rw [vchar_eq]; simp [-List.getD_eq_getElem?_getD]; omega), hH⟩
    | (refine e_end (res1 rfl tW) hH ⟨?_, rfl⟩ tTk; refine congrArg Value.bool ?_; rw [Hp.valueP, all_end hall (by omega), Bool.eq_iff_iff]; simp)

end Go.Proofs.YtiofekhdicfmoaaGreatDoor

/- Cut, split, digits: the library's words against the plain ones; the library's contracts told of what is owned. -/
namespace Go.Proofs.YtiofekhdicfmoaaGreatDoor
open Go Go.Hr Go.RowKit
theorem Holds_below {w0 w w' : World} {D : List Nat} {R : List Ro} {H : List Own} (h : Holds w0 D w R H) (hb : Below w.heap.size w w') : Holds w0 D w' R H :=
  h.step hb.os hb.tape hb.output hb.size (fun b hlt _ => hb.block b hlt) (fun o ho => Own.keep (h.each o ho) (fun b hbm => hb.block b (Own.lt (h.each o ho) hbm))) h.nodup (fun _ hb => .inl hb)

/-- where a byte stands, as a cut -/
theorem cut_index (c : UInt8) : ∀ s : List UInt8, (Lib.indexByte s c = -1 ∧ Hp.cutP c s = none) ∨ ∃ i : Nat, i < s.length ∧ Lib.indexByte s c = i ∧ Hp.cutP c s = some (s.take i, s.drop (i + 1))
  | [] => .inl ⟨rfl, rfl⟩
  | x :: xs => by
    by_cases hx : x == c
    · exact .inr ⟨0, by simp, by simp [Lib.indexByte, hx], by simp [Hp.cutP, hx]⟩
    · rcases cut_index c xs with ⟨h1, h2⟩ | ⟨i, hi, h1, h2⟩
      · exact .inl ⟨by simp [Lib.indexByte, hx, h1], by simp [Hp.cutP, hx, h2]⟩
      · refine .inr ⟨i + 1, by simp; omega, ?_, by simp [Hp.cutP, hx, h2]⟩
        have : ¬ ((i : Int) = -1) := by omega
        simp [Lib.indexByte, hx, h1, this]
theorem split_cut' (c : UInt8) (s : List UInt8) : Hp.splitP c s = match Hp.cutP c s with | none => [s] | some (a, b) => a :: Hp.splitP c b := Hp.split_cut s
theorem count_cut (c : UInt8) (s : List UInt8) : s.count c = match Hp.cutP c s with | none => 0 | some (_, b) => 1 + b.count c := by
  induction s with
  | nil => rfl
  | cons x xs ih =>
    by_cases hx : x == c
    · have : x = c := by simpa using hx
      subst this
      simp [Hp.cutP, Nat.add_comm]
    · have hne : ¬ x = c := by simpa using hx
      simp only [Hp.cutP, hx]
      rw [List.count_cons_of_ne (by simpa using hne), ih]
      cases Hp.cutP c xs <;> rfl
theorem splitK_cut (c : UInt8) (k : Nat) (s : List UInt8) : Lib.splitK [c] 0 (k + 1) s = match Hp.cutP c s with | none => [s] | some (a, b) => a :: Lib.splitK [c] 0 k b := by
  rw [Lib.splitK.eq_2, Lib.index_one]
  rcases cut_index c s with ⟨h1, h2⟩ | ⟨i, hi, h1, h2⟩
  · simp [h1, h2]
  · have : ¬ ((i : Int) = -1) := by omega
    simp [h1, h2, this]
theorem splitK_all (c : UInt8) : ∀ (k : Nat) (s : List UInt8), s.count c = k → Lib.splitK [c] 0 k s = Hp.splitP c s
  | 0, s, h => by
    rw [split_cut']
    rw [count_cut] at h
    cases hc : Hp.cutP c s with
    | none => rfl
    | some p => rw [hc] at h; obtain ⟨a, b⟩ := p; simp at h
  | k + 1, s, h => by
    rw [splitK_cut, split_cut']
    rw [count_cut] at h
    cases hc : Hp.cutP c s with
    | none => rfl
    | some p =>
      rw [hc] at h; obtain ⟨a, b⟩ := p
      simp only at h ⊢
      rw [splitK_all c k b (by omega)]
/-- the parts of a text cut at most twice -/
def cut3 (c : UInt8) (s : List UInt8) : List (List UInt8) :=
  match Hp.cutP c s with
  | none => [s]
  | some (a, r) => match Hp.cutP c r with
    | none => [a, r]
    | some (b, d) => [a, b, d]
theorem splitN_three (c : UInt8) (s : List UInt8) : Lib.splitK [c] 0 (min 3 (s.length + 1) - 1) s = cut3 c s := by
  unfold cut3
  match s with
  | [] => rfl
  | [x] =>
    have : min 3 ([x].length + 1) - 1 = 0 + 1 := rfl
    rw [this, splitK_cut]
    by_cases hx : x == c <;> simp [Hp.cutP, hx, Lib.splitK]
  | x :: y :: r =>
    have : min 3 ((x :: y :: r).length + 1) - 1 = 1 + 1 := by simp
    rw [this, splitK_cut]
    cases Hp.cutP c (x :: y :: r) with
    | none => rfl
    | some p =>
      obtain ⟨a, b⟩ := p
      simp only
      rw [splitK_cut]
      cases Hp.cutP c b with
      | none => rfl
      | some q => rfl
def strs (ls : List (List UInt8)) : List Value := ls.map fun l => .string ⟨l.toArray⟩
theorem strs_of (bs : List ByteArray) (ls : List (List UInt8)) (h : bs.map (·.data.toList) = ls) : bs.map Value.string = strs ls := by
  subst h
  simp [strs]
theorem split_len (c : UInt8) (s : List UInt8) : (Hp.splitP c s).length ≤ s.length + 1 := by
  induction s with
  | nil => simp [Hp.splitP]
  | cons x xs ih =>
    simp only [Hp.splitP]
    split
    · simp; omega
    · cases h : Hp.splitP c xs with
      | nil => simp
      | cons a r => rw [h] at ih; simp at ih ⊢; omega
theorem call88 (s : List UInt8) (G : Glob) (hs : s.length < 4294967281) {w w0 : World} {D : List Nat} {H : List Own} (hw : Holds w0 D w (GL G) H) : Calls Tryz.prog 88 #[.string ⟨s.toArray⟩, .string ⟨#[32]⟩] w fun e w' =>
    e = .returned (.slice (some ⟨w.heap.size, 0, none⟩) (Hp.splitP 32 s).length (Hp.splitP 32 s).length) ∧ w' = w.alloc (.cells (strs (Hp.splitP 32 s)).toArray 9) := by
  have h := Tryz.strings_Split ⟨s.toArray⟩ ⟨#[32]⟩ G.m w (by simpa [ByteArray.size] using hs) (cell_ro hw (gMax_mem G) rfl rfl rfl) (by decide)
  have e1 : Lib.countB ⟨s.toArray⟩ ⟨#[32]⟩ = s.count 32 := by
    have := Lib.count_one 32 s
    simpa [Lib.countB] using this
  have e2 : (Lib.splitB ⟨#[32]⟩ 0 (Lib.countB ⟨s.toArray⟩ ⟨#[32]⟩) ⟨s.toArray⟩).map (·.data.toList) = Hp.splitP 32 s := by
    rw [Lib.splitB_data, e1]
    exact splitK_all 32 _ s rfl
  have e3 := strs_of _ _ e2
  have e4 : Lib.countB ⟨s.toArray⟩ ⟨#[32]⟩ + 1 = (Hp.splitP 32 s).length := by
    rw [← e2, List.length_map]
    exact (Lib.splitB_all _ (by decide) 0 _ _ rfl).symm
  rw [e3, e4] at h
  exact h
theorem call83 (s : List UInt8) (G : Glob) (hs : s.length < 4294967281) {w w0 : World} {D : List Nat} {H : List Own} (hw : Holds w0 D w (GL G) H) : Calls Tryz.prog 83 #[.string ⟨s.toArray⟩, .string ⟨#[32]⟩, .int .i64 3] w fun e w' =>
    ∃ N, (cut3 32 s).length ≤ N ∧ N ≤ 3 ∧ e = .returned (.slice (some ⟨w.heap.size, 0, none⟩) (cut3 32 s).length N) ∧ w' = w.alloc (.cells (strs (cut3 32 s) ++ List.replicate (N - (cut3 32 s).length) (Value.string ByteArray.empty)).toArray 9) := by
  have h := Tryz.strings_SplitN ⟨s.toArray⟩ ⟨#[32]⟩ 3 G.m w (by simpa [ByteArray.size] using hs) (cell_ro hw (gMax_mem G) rfl rfl rfl) (by decide) (by decide) (by decide)
  have hsz : (⟨s.toArray⟩ : ByteArray).size = s.length := by simp [ByteArray.size]
  rw [hsz] at h
  have e2 : (Lib.splitB ⟨#[32]⟩ 0 (min 3 (s.length + 1) - 1) ⟨s.toArray⟩).map (·.data.toList) = cut3 32 s := by
    rw [Lib.splitB_data]
    exact splitN_three 32 s
  have e3 := strs_of _ _ e2
  have e4 : (Lib.splitB ⟨#[32]⟩ 0 (min 3 (s.length + 1) - 1) ⟨s.toArray⟩).length = (cut3 32 s).length := by rw [← e2, List.length_map]
  have e5 := Lib.splitB_length_le ⟨#[32]⟩ 0 (min 3 (s.length + 1) - 1) ⟨s.toArray⟩
  rw [e4] at h e5
  refine h.mono fun e w' he => ⟨min 3 (s.length + 1), by omega, by omega, he.1, ?_⟩
  rw [he.2]
  simp only [Lib.cellsOf, e3, e4]
theorem below_bytes (w : World) (e : Nat) (s : ByteArray) : Below w.heap.size w (Lib.bytesWorld w e s) := Joins.below_bytesWorld _ w e s (Nat.le_refl _)
end Go.Proofs.YtiofekhdicfmoaaGreatDoor

namespace Go.Proofs.YtiofekhdicfmoaaGreatDoor
open Go Go.Hr
attribute [local irreducible] Go.wpList Go.Code.wp Go.Calls Go.Hr.CallsA Go.wpAnyH Go.callFunc Go.callMethod Go.Instr.typeAssert Go.Sem.run
set_option maxHeartbeats 4000000
set_option linter.all false

open Go.RowKit
def cutV (c : UInt8) (s : List UInt8) : Value := match Hp.cutP c s with
  | none => .tuple (List.toArray [.string ⟨s.toArray⟩, .string ⟨([] : List UInt8).toArray⟩, .bool false])
  | some (a, b) => .tuple (List.toArray [.string ⟨a.toArray⟩, .string ⟨b.toArray⟩, .bool true])
theorem c164 (s : List UInt8) (c : UInt8) : CallsA Tryz.prog 164 (List.toArray [.string ⟨s.toArray⟩, .string ⟨(List.toArray [c])⟩]) [] [] (fun v H' => v = .int .i64 (Lib.indexByte s c) ∧ H' = []) :=
  callsA_pure fun w => Tryz.stringslite_Index_one ⟨s.toArray⟩ c w
theorem c148 (s : List UInt8) (c : UInt8) (hs : s.length ≤ 1099511627776) : CallsA Tryz.prog 148 (List.toArray [.string ⟨s.toArray⟩, .string ⟨(List.toArray [c])⟩]) [] [] (fun v H' => v = cutV c s ∧ H' = []) := by
  have hidx : ∃ k : Int, Lib.indexByte s c = k := ⟨_, rfl⟩
  obtain ⟨k, hk⟩ := hidx
  have hc : (k = -1 ∧ Hp.cutP c s = none) ∨ ∃ i : Nat, i < s.length ∧ k = i ∧ Hp.cutP c s = some (s.take i, s.drop (i + 1)) := hk ▸ cut_index c s
  have c164k := c164 s c
  rw [hk] at c164k
  rcases hc with ⟨rfl, h2⟩ | ⟨i, hi, rfl, h2⟩
  · refine callsA_of (args := [_, _]) Tryz.func148 rfl Tryz.ntmps148 (by simp) ?_
    intro w0 hH
    repeat' (first | refine stp ?_ | (refine g_guard ?_; (first | refine r_guardD rfl rfl rfl (fun hg hp => ?_) (fun hg hp => ?_) | refine r_guard rfl rfl rfl (fun hg => ?_) (fun hg => ?_))) | (refine g_load ?_; (first | (refine p_loadSB hH rfl rfl tO ?_) | (refine p_loadRB hH rfl rfl (by omega) tO ?_) | (refine p_loadS hH rfl tW ?_))) | (refine g_call ?_; (first | (refine k_call (g := 164) Tryz.func164 rfl rfl hH (EvL.cons (EvK.any rfl) (EvL.cons (EvK.any rfl) EvL.nil)) (c164k) tTk tRd (fun v H1 w hT hH => ?_); obtain ⟨rfl, rfl⟩ := hT; simp only [List.nil_append, List.cons_append] at hH) | (refine p_appendL hH rfl rfl (Reads1.own (v := .nilIface) (Sel.mem tSel)) rfl rfl rfl tO rfl (fun vb vc w hH => ?_)))) | refine n_buildSlice1 hH tE rfl rfl rfl rfl tN (fun g w hg hH => ?_) | (refine r_toInt Tryz.underlying183 Tryz.underlying3 rfl (wrap_small (by omega)) ?_) | (refine p_toTextS hH rfl rfl tO rfl ?_) | (refine g_store ?_; (first | refine n_store hH rfl tE rfl rfl tN (fun w hH => ?_) | refine n_storeA hH rfl rfl rfl rfl rfl tN (fun w hH => ?_))) | refine n_alloc hH tW (fun g w hg hH => ?_) | (refine g_box ?_; (first | refine p_boxA hH rfl (fun g w hg hH => ?_) | refine p_boxI hH rfl (fun g w hg hH => ?_) | refine p_boxL hH rfl (fun g w hg hH => ?_))) | (refine g_cond ?_; (first | refine c_condD rfl (fun hc hp => ?_) (fun hc hp => ?_) | refine c_cond rfl (fun hc => ?_) (fun hc => ?_))) | refine d_start (P := Tryz.prog) hH (fun hH => ?_) | (refine g_any ?_; (first | (apply d_done; exact rfl; kernel_rfl) | (apply d_next; exact rfl; exact rfl; exact rfl; kernel_rfl; (first | (simp only [falses, setB]; exact rfl) | exact rfl); exact hH.sub tSub; (intro w hH; (repeat (first | refine stpO ?_ | (refine g_load ?_; (first | (refine p_loadS hH rfl tW ?_))))); exact r_nil one_end)) | (apply d_split; exact rfl; exact rfl; exact rfl; exact rfl; exact rfl; intro hg; rotate_left; intro hg; rotate_right) | (apply d_all1; exact rfl; kernel_rfl; exact rfl; exact rfl) | (apply d_all2; exact rfl; kernel_rfl; exact rfl; exact rfl; exact rfl; exact rfl) | (apply d_all3; exact rfl; kernel_rfl; exact rfl; exact rfl; exact rfl; exact rfl; exact rfl; exact rfl))) | refine then_end (hH.sub tSub) ?_)
    all_goals refine e_end (res3 rfl tW tW tW) hH ⟨?_, rfl⟩ tTk
    all_goals (unfold cutV; rw [h2])
  · refine callsA_of (args := [_, _]) Tryz.func148 rfl Tryz.ntmps148 (by simp) ?_
    intro w0 hH
    repeat' (first | refine stp ?_ | (refine g_guard ?_; (first | refine r_guardD rfl rfl rfl (fun hg hp => ?_) (fun hg hp => ?_) | refine r_guard rfl rfl rfl (fun hg => ?_) (fun hg => ?_))) | (refine g_load ?_; (first | (refine p_loadSB hH rfl rfl tO ?_) | (refine p_loadRB hH rfl rfl (by omega) tO ?_) | (refine p_loadS hH rfl tW ?_))) | (refine g_call ?_; (first | (refine k_call (g := 164) Tryz.func164 rfl rfl hH (EvL.cons (EvK.any rfl) (EvL.cons (EvK.any rfl) EvL.nil)) (c164k) tTk tRd (fun v H1 w hT hH => ?_); obtain ⟨rfl, rfl⟩ := hT; simp only [List.nil_append, List.cons_append] at hH) | (refine p_appendL hH rfl rfl (Reads1.own (v := .nilIface) (Sel.mem tSel)) rfl rfl rfl tO rfl (fun vb vc w hH => ?_)))) | refine n_buildSlice1 hH tE rfl rfl rfl rfl tN (fun g w hg hH => ?_) | (refine r_toInt Tryz.underlying183 Tryz.underlying3 rfl (wrap_small (by omega)) ?_) | (refine p_toTextS hH rfl rfl tO rfl ?_) | (refine g_store ?_; (first | refine n_store hH rfl tE rfl rfl tN (fun w hH => ?_) | refine n_storeA hH rfl rfl rfl rfl rfl tN (fun w hH => ?_))) | refine n_alloc hH tW (fun g w hg hH => ?_) | (refine g_box ?_; (first | refine p_boxA hH rfl (fun g w hg hH => ?_) | refine p_boxI hH rfl (fun g w hg hH => ?_) | refine p_boxL hH rfl (fun g w hg hH => ?_))) | (refine g_cond ?_; (first | refine c_condD rfl (fun hc hp => ?_) (fun hc hp => ?_) | refine c_cond rfl (fun hc => ?_) (fun hc => ?_))) | refine d_start (P := Tryz.prog) hH (fun hH => ?_) | (refine g_any ?_; (first | (apply d_done; exact rfl; kernel_rfl) | (apply d_next; exact rfl; exact rfl; exact rfl; kernel_rfl; (first | (simp only [falses, setB]; exact rfl) | exact rfl); exact hH.sub tSub; (intro w hH; (repeat (first | refine stpO ?_ | (refine g_load ?_; (first | (refine p_loadS hH rfl tW ?_))))); exact r_nil one_end)) | (apply d_split; exact rfl; exact rfl; exact rfl; exact rfl; exact rfl; intro hg; rotate_left; intro hg; rotate_right) | (apply d_all1; exact rfl; kernel_rfl; exact rfl; exact rfl) | (apply d_all2; exact rfl; kernel_rfl; exact rfl; exact rfl; exact rfl; exact rfl) | (apply d_all3; exact rfl; kernel_rfl; exact rfl; exact rfl; exact rfl; exact rfl; exact rfl; exact rfl))) | refine then_end (hH.sub tSub) ?_)
    all_goals refine e_end (res3 rfl tW tW tW) hH ⟨?_, rfl⟩ tTk
    all_goals (unfold cutV; rw [h2]; rfl)
theorem c119 (s : List UInt8) (c : UInt8) (hs : s.length ≤ 1099511627776) : CallsA Tryz.prog 119 (List.toArray [.string ⟨s.toArray⟩, .string ⟨(List.toArray [c])⟩]) [] [] (fun v H' => v = cutV c s ∧ H' = []) := by
  have h148 := c148 s c hs
  unfold cutV at h148 ⊢
  cases hc : Hp.cutP c s with
  | none =>
    rw [hc] at h148
    refine callsA_of (args := [_, _]) Tryz.func119 rfl Tryz.ntmps119 (by simp) ?_
    intro w0 hH
    repeat' (first | refine stp ?_ | (refine g_guard ?_; (first | refine r_guardD rfl rfl rfl (fun hg hp => ?_) (fun hg hp => ?_) | refine r_guard rfl rfl rfl (fun hg => ?_) (fun hg => ?_))) | (refine g_load ?_; (first | (refine p_loadSB hH rfl rfl tO ?_) | (refine p_loadRB hH rfl rfl (by omega) tO ?_) | (refine p_loadS hH rfl tW ?_))) | (refine g_call ?_; (first | (refine k_call (g := 148) Tryz.func148 rfl rfl hH (EvL.cons (EvK.any rfl) (EvL.cons (EvK.any rfl) EvL.nil)) (h148) tTk tRd (fun v H1 w hT hH => ?_); obtain ⟨rfl, rfl⟩ := hT; simp only [List.nil_append, List.cons_append] at hH) | (refine p_appendL hH rfl rfl (Reads1.own (v := .nilIface) (Sel.mem tSel)) rfl rfl rfl tO rfl (fun vb vc w hH => ?_)))) | refine n_buildSlice1 hH tE rfl rfl rfl rfl tN (fun g w hg hH => ?_) | (refine r_toInt Tryz.underlying183 Tryz.underlying3 rfl (wrap_small (by omega)) ?_) | (refine p_toTextS hH rfl rfl tO rfl ?_) | (refine g_store ?_; (first | refine n_store hH rfl tE rfl rfl tN (fun w hH => ?_) | refine n_storeA hH rfl rfl rfl rfl rfl tN (fun w hH => ?_))) | refine n_alloc hH tW (fun g w hg hH => ?_) | (refine g_box ?_; (first | refine p_boxA hH rfl (fun g w hg hH => ?_) | refine p_boxI hH rfl (fun g w hg hH => ?_) | refine p_boxL hH rfl (fun g w hg hH => ?_))) | (refine g_cond ?_; (first | refine c_condD rfl (fun hc hp => ?_) (fun hc hp => ?_) | refine c_cond rfl (fun hc => ?_) (fun hc => ?_))) | refine d_start (P := Tryz.prog) hH (fun hH => ?_) | (refine g_any ?_; (first | (apply d_done; exact rfl; kernel_rfl) | (apply d_next; exact rfl; exact rfl; exact rfl; kernel_rfl; (first | (simp only [falses, setB]; exact rfl) | exact rfl); exact hH.sub tSub; (intro w hH; (repeat (first | refine stpO ?_ | (refine g_load ?_; (first | (refine p_loadS hH rfl tW ?_))))); exact r_nil one_end)) | (apply d_split; exact rfl; exact rfl; exact rfl; exact rfl; exact rfl; intro hg; rotate_left; intro hg; rotate_right) | (apply d_all1; exact rfl; kernel_rfl; exact rfl; exact rfl) | (apply d_all2; exact rfl; kernel_rfl; exact rfl; exact rfl; exact rfl; exact rfl) | (apply d_all3; exact rfl; kernel_rfl; exact rfl; exact rfl; exact rfl; exact rfl; exact rfl; exact rfl))) | refine then_end (hH.sub tSub) ?_)
    all_goals refine e_end (res3 rfl tW tW tW) hH ⟨?_, rfl⟩ tTk
    all_goals rfl
  | some p =>
    obtain ⟨a, b⟩ := p
    rw [hc] at h148
    refine callsA_of (args := [_, _]) Tryz.func119 rfl Tryz.ntmps119 (by simp) ?_
    intro w0 hH
    repeat' (first | refine stp ?_ | (refine g_guard ?_; (first | refine r_guardD rfl rfl rfl (fun hg hp => ?_) (fun hg hp => ?_) | refine r_guard rfl rfl rfl (fun hg => ?_) (fun hg => ?_))) | (refine g_load ?_; (first | (refine p_loadSB hH rfl rfl tO ?_) | (refine p_loadRB hH rfl rfl (by omega) tO ?_) | (refine p_loadS hH rfl tW ?_))) | (refine g_call ?_; (first | (refine k_call (g := 148) Tryz.func148 rfl rfl hH (EvL.cons (EvK.any rfl) (EvL.cons (EvK.any rfl) EvL.nil)) (h148) tTk tRd (fun v H1 w hT hH => ?_); obtain ⟨rfl, rfl⟩ := hT; simp only [List.nil_append, List.cons_append] at hH) | (refine p_appendL hH rfl rfl (Reads1.own (v := .nilIface) (Sel.mem tSel)) rfl rfl rfl tO rfl (fun vb vc w hH => ?_)))) | refine n_buildSlice1 hH tE rfl rfl rfl rfl tN (fun g w hg hH => ?_) | (refine r_toInt Tryz.underlying183 Tryz.underlying3 rfl (wrap_small (by omega)) ?_) | (refine p_toTextS hH rfl rfl tO rfl ?_) | (refine g_store ?_; (first | refine n_store hH rfl tE rfl rfl tN (fun w hH => ?_) | refine n_storeA hH rfl rfl rfl rfl rfl tN (fun w hH => ?_))) | refine n_alloc hH tW (fun g w hg hH => ?_) | (refine g_box ?_; (first | refine p_boxA hH rfl (fun g w hg hH => ?_) | refine p_boxI hH rfl (fun g w hg hH => ?_) | refine p_boxL hH rfl (fun g w hg hH => ?_))) | (refine g_cond ?_; (first | refine c_condD rfl (fun hc hp => ?_) (fun hc hp => ?_) | refine c_cond rfl (fun hc => ?_) (fun hc => ?_))) | refine d_start (P := Tryz.prog) hH (fun hH => ?_) | (refine g_any ?_; (first | (apply d_done; exact rfl; kernel_rfl) | (apply d_next; exact rfl; exact rfl; exact rfl; kernel_rfl; (first | (simp only [falses, setB]; exact rfl) | exact rfl); exact hH.sub tSub; (intro w hH; (repeat (first | refine stpO ?_ | (refine g_load ?_; (first | (refine p_loadS hH rfl tW ?_))))); exact r_nil one_end)) | (apply d_split; exact rfl; exact rfl; exact rfl; exact rfl; exact rfl; intro hg; rotate_left; intro hg; rotate_right) | (apply d_all1; exact rfl; kernel_rfl; exact rfl; exact rfl) | (apply d_all2; exact rfl; kernel_rfl; exact rfl; exact rfl; exact rfl; exact rfl) | (apply d_all3; exact rfl; kernel_rfl; exact rfl; exact rfl; exact rfl; exact rfl; exact rfl; exact rfl))) | refine then_end (hH.sub tSub) ?_)
    all_goals refine e_end (res3 rfl tW tW tW) hH ⟨?_, rfl⟩ tTk
    all_goals rfl
theorem c88 (G : Glob) (s : List UInt8) (hs : s.length ≤ 1048576) : CallsA Tryz.prog 88 (List.toArray [.string ⟨s.toArray⟩, .string ⟨(List.toArray [32])⟩]) (GL G) []
    (fun v H' => ∃ g, v = .slice (some ⟨g, 0, none⟩) (Hp.splitP 32 s).length (Hp.splitP 32 s).length ∧ H' = [.sl (.slice (some ⟨g, 0, none⟩) (Hp.splitP 32 s).length (Hp.splitP 32 s).length) 9 1 (Hp.splitP 32 s).length (strs (Hp.splitP 32 s))]) := by
  unfold CallsA
  intro w hw
  refine (call88 s G (by omega) hw).mono fun e w' he => ?_
  obtain ⟨he, rfl⟩ := he
  refine ⟨_, _, he, ⟨_, rfl, rfl⟩, ?_⟩
  have hl : (Hp.splitP 32 s).length ≤ s.length + 1 := split_len 32 s
  exact hw.new_ ⟨rfl, rfl, rfl, by simp, fun b hb _ => Below.heap_alloc w _ b hb⟩ (ownsRow_exact (by simp [strs]) (by have : maxLen = 9223372036854775807 := rfl; omega) w) (.inr ⟨_, rfl, Nat.le_refl _⟩)
theorem c83 (G : Glob) (s : List UInt8) (hs : s.length ≤ 1048576) : CallsA Tryz.prog 83 (List.toArray [.string ⟨s.toArray⟩, .string ⟨(List.toArray [32])⟩, .int .i64 3]) (GL G) []
    (fun v H' => ∃ g N, (cut3 32 s).length ≤ N ∧ v = .slice (some ⟨g, 0, none⟩) (cut3 32 s).length N ∧ H' = [.sl (.slice (some ⟨g, 0, none⟩) (cut3 32 s).length N) 9 1 (cut3 32 s).length (strs (cut3 32 s))]) := by
  unfold CallsA
  intro w hw
  refine (call83 s G (by omega) hw).mono fun e w' he => ?_
  obtain ⟨N, h1, h2, he, rfl⟩ := he
  refine ⟨_, _, he, ⟨_, N, h1, rfl, rfl⟩, ?_⟩
  refine hw.new_ ⟨rfl, rfl, rfl, by simp, fun b hb _ => Below.heap_alloc w _ b hb⟩ ?_ (.inr ⟨_, rfl, Nat.le_refl _⟩)
  refine ⟨by simp [strs], .inr ⟨w.heap.size, N, _, rfl, Nat.zero_le _, heap_alloc_new w _, h1, by have : maxLen = 9223372036854775807 := rfl; omega, by simp [strs]; omega, ?_⟩⟩
  have e : (cut3 32 s).length * 1 = (strs (cut3 32 s)).length := by simp [strs]
  rw [e]
  simp
def refV (c : Nat) : Value := if c = 0 then .nilIface else .iface 129 (.agg (List.toArray [.int .i64 (c : Int)]))
theorem versionP_eq (s : List UInt8) (h0 : ¬ s = [72,84,84,80,47,49,46,48]) (h1 : ¬ s = [72,84,84,80,47,49,46,49]) :
    Hp.versionP s = if s.length = 8 ∧ s.take 5 = [72,84,84,80,47] ∧ Hp.digitP (s.getD 5 0) = true ∧ s.getD 6 0 = 46 ∧ Hp.digitP (s.getD 7 0) = true then (0, 86) else (0, 80) := by
  unfold Hp.versionP
  rw [if_neg h0, if_neg h1]
  match s with
  | [] => rfl
  | [_] => rfl
  | [_, _] => rfl
  | [_, _, _] => rfl
  | [_, _, _, _] => rfl
  | [_, _, _, _, _] => rfl
  | [_, _, _, _, _, _] => rfl
  | [_, _, _, _, _, _, _] => rfl
  | [a, b, c, d, e, f, g, h] => simp
  | a :: b :: c :: d :: e :: f :: g :: h :: i :: r =>
    rw [if_neg (by simp)]
theorem c86 (s : List UInt8) (hs : s.length ≤ 1048576) : CallsA Tryz.prog 86 (List.toArray [.string ⟨s.toArray⟩]) [] [] (fun v H' => v = .tuple (List.toArray [.int .i64 ((Hp.versionP s).1 : Int), refV (Hp.versionP s).2]) ∧ H' = []) := by
  refine callsA_of (args := [_]) Tryz.func86 rfl Tryz.ntmps86 (by simp) ?_
  intro w0 hH
  repeat' (first | refine stp ?_ | (refine g_guard ?_; (first | refine r_guardD rfl rfl rfl (fun hg hp => ?_) (fun hg hp => ?_) | refine r_guard rfl rfl rfl (fun hg => ?_) (fun hg => ?_))) | (refine g_load ?_; (first | (refine p_loadSB hH rfl rfl tO ?_) | (refine p_loadRB hH rfl rfl (by omega) tO ?_) | (refine p_loadS hH rfl tW ?_))) | (refine g_call ?_; (first | (refine k_call (g := 70) Tryz.func70 rfl rfl hH (EvL.cons (EvK.any rfl) EvL.nil) (c70 _) tTk tRd (fun v H1 w hT hH => ?_); obtain ⟨rfl, rfl⟩ := hT; simp only [List.nil_append, List.cons_append] at hH) | (refine p_callV Tryz.func118 rfl rfl hH rfl rfl rfl (c118 _) tTk tRd (fun v H1 w hT hH => ?_); obtain ⟨rfl, rfl⟩ := hT; simp only [List.nil_append, List.cons_append] at hH) | (refine p_appendL hH rfl rfl (Reads1.own (v := .nilIface) (Sel.mem tSel)) rfl rfl rfl tO rfl (fun vb vc w hH => ?_)))) | refine n_buildSlice1 hH tE rfl rfl rfl rfl tN (fun g w hg hH => ?_) | (refine r_toInt Tryz.underlying183 Tryz.underlying3 rfl (wrap_small (by omega)) ?_) | (refine p_toTextS hH rfl rfl tO rfl ?_) | (refine g_store ?_; (first | refine n_store hH rfl tE rfl rfl tN (fun w hH => ?_) | refine n_storeA hH rfl rfl rfl rfl rfl tN (fun w hH => ?_))) | refine n_alloc hH tW (fun g w hg hH => ?_) | (refine g_box ?_; (first | refine p_boxA hH rfl (fun g w hg hH => ?_) | refine p_boxI hH rfl (fun g w hg hH => ?_) | refine p_boxL hH rfl (fun g w hg hH => ?_))) | (refine g_cond ?_; (first | refine c_condD rfl (fun hc hp => ?_) (fun hc hp => ?_) | refine c_cond rfl (fun hc => ?_) (fun hc => ?_))) | refine d_start (P := Tryz.prog) hH (fun hH => ?_) | (refine g_any ?_; (first | (apply d_done; exact rfl; kernel_rfl) | (apply d_next; exact rfl; exact rfl; exact rfl; kernel_rfl; (first | (simp only [falses, setB]; exact rfl) | exact rfl); exact hH.sub tSub; (intro w hH; (repeat (first | refine stpO ?_ | (refine g_load ?_; (first | (refine p_loadS hH rfl tW ?_))))); exact r_nil one_end)) | (apply d_split; exact rfl; exact rfl; exact rfl; exact rfl; exact rfl; intro hg; rotate_left; intro hg; rotate_right) | (apply d_all1; exact rfl; kernel_rfl; exact rfl; exact rfl) | (apply d_all2; exact rfl; kernel_rfl; exact rfl; exact rfl; exact rfl; exact rfl) | (apply d_all3; exact rfl; kernel_rfl; exact rfl; exact rfl; exact rfl; exact rfl; exact rfl; exact rfl))) | refine then_end (hH.sub tSub) ?_)
  all_goals refine e_end (res2 rfl tW tW) hH ⟨?_, rfl⟩ tTk
  · rw [hp]; rfl
  · rw [hp]; rfl
  all_goals rw [versionP_eq s (by assumption) (by assumption)]
  · rw [if_pos ⟨by omega, by assumption, by simp_all, by have := (u8_eq (s.getD 6 0) 46 (by omega)).1 hp; exact this, by simp_all⟩]; rfl
  · rw [if_neg (by rintro ⟨_, _, _, _, h5⟩; simp_all)]; rfl
  · rw [if_neg (by rintro ⟨_, _, _, h4, _⟩; exact hp ((u8_eq (s.getD 6 0) 46 (by omega)).2 h4))]; rfl
  · rw [if_neg (by rintro ⟨_, _, h3, _, _⟩; simp_all)]; rfl
  · rw [if_neg (by rintro ⟨_, h2, _⟩; exact hp h2)]; rfl
  · rw [if_neg (by rintro ⟨h1, _⟩; exact hp (by omega))]; rfl

end Go.Proofs.YtiofekhdicfmoaaGreatDoor

namespace Go.Proofs.YtiofekhdicfmoaaGreatDoor
open Go Go.Hr
attribute [local irreducible] Go.wpList Go.Code.wp Go.Calls Go.Hr.CallsA Go.wpAnyH Go.callFunc Go.callMethod Go.Instr.typeAssert Go.Sem.run
set_option maxHeartbeats 4000000
set_option linter.all false

open Go.RowKit
theorem wrap_small {a : Int} (h : 0 ≤ a ∧ a ≤ 9223372036854775807) : IntKind.wrap .i64 a = a := IntWalk.i64_in _ ⟨by omega, h.2⟩
/-- What ParseUint says of one byte. -/
def puT (b : Nat) (c : UInt8) (v : Value) : Prop := match Hp.digitOf b c with
  | some d => v = .tuple (List.toArray [.int .u64 (d : Int), .nilIface])
  | none => ∃ N : Nat, v = .tuple (List.toArray [.int .u64 0, .iface 253 (.pointer (some ⟨N, 0, none⟩))])
def PuOk (G : Glob) (b : Nat) : Prop := ∀ c : UInt8, CallsA Tryz.prog 147 (List.toArray [.string ⟨(List.toArray [c])⟩, .int .i64 (b : Int), .int .i64 8]) (GL G) [] (fun v H' => puT b c v ∧ H' = [])
theorem digit10 (c : UInt8) : Hp.digitOf 10 c = if 48 ≤ c.toNat ∧ c.toNat ≤ 57 then some (c.toNat - 48) else none := by
  unfold Hp.digitOf
  simp only [UInt8.le_iff_toNat_le, Bool.and_eq_true, decide_eq_true_eq]
  have e1 : (48 : UInt8).toNat = 48 := rfl
  have e2 : (57 : UInt8).toNat = 57 := rfl
  have e3 : (97 : UInt8).toNat = 97 := rfl
  have e4 : (102 : UInt8).toNat = 102 := rfl
  have e5 : (65 : UInt8).toNat = 65 := rfl
  have e6 : (70 : UInt8).toNat = 70 := rfl
  simp only [e1, e2, e3, e4, e5, e6]
  by_cases h1 : 48 ≤ c.toNat ∧ c.toNat ≤ 57
  · rw [if_pos h1, if_pos h1]; simp only; rw [if_pos (by omega)]
  · rw [if_neg h1, if_neg h1]
    by_cases h2 : 97 ≤ c.toNat ∧ c.toNat ≤ 102
    · rw [if_pos h2]; simp only; rw [if_neg (by omega)]
    · rw [if_neg h2]
      by_cases h3 : 65 ≤ c.toNat ∧ c.toNat ≤ 70
      · rw [if_pos h3]; simp only; rw [if_neg (by omega)]
      · rw [if_neg h3]
theorem digit_lt {b : Nat} {c : UInt8} {d : Nat} (h : Hp.digitOf b c = some d) : d < b := by
  unfold Hp.digitOf at h
  simp only at h
  split at h
  · split at h
    · injection h with h; omega
    · cases h
  · cases h
theorem pu10 (G : Glob) : PuOk G 10 := by
  intro c
  unfold CallsA
  intro w hw
  have hcell : w.cell? ⟨7, 0, none⟩ = some (.iface G.te G.ve) := cell_ro hw (gSyn_mem G) rfl rfl rfl
  unfold puT
  rw [digit10]
  by_cases h : 48 ≤ c.toNat ∧ c.toNat ≤ 57
  · rw [if_pos h]
    have hp : Lib.parseUintB 8 [c] = .ok (c.toNat - 48) := by
      simp only [Lib.parseUintB, Lib.parseUintM]
      rw [if_neg (by simp), if_pos h, if_neg (by omega), if_neg (by omega)]
      simp
    refine (Tryz.strconv_ParseUint_10_at8_ok ⟨(List.toArray [c])⟩ (by show 1 ≤ _; omega) _ hp w).mono fun e w' he => ?_
    obtain ⟨he, hw'⟩ := he
    refine ⟨_, [], he, ⟨rfl, rfl⟩, ?_⟩
    rcases hw' with rfl | rfl
    · exact hw
    · exact Holds_below hw (below_bytes w 5 _)
  · rw [if_neg h]
    have hp : Lib.parseUintB 8 [c] = Lib.parseUintB 8 [] := by
      simp only [Lib.parseUintB, Lib.parseUintM]
      rw [if_neg (by simp), if_neg h, if_pos trivial]
    refine (Tryz.strconv_ParseUint_10_at8_syntax ⟨(List.toArray [c])⟩ (by show 1 ≤ _; omega) hp _ w hcell (.inr ⟨_, _, rfl⟩)).mono fun e w' he => ?_
    obtain ⟨N, he, _, _, hb⟩ := he
    exact ⟨_, [], he, ⟨⟨N, rfl⟩, rfl⟩, Holds_below hw hb⟩
theorem one_at (s : List UInt8) (i : Nat) (hi : i < s.length) : (s.drop ((i : Int)).toNat).take (((i : Int) + 1).toNat - ((i : Int)).toNat) = [s.getD i 0] := by
  have e : ((i : Int) + 1).toNat - ((i : Int)).toNat = 1 := by omega
  have e2 : s.getD i 0 = s[i] := by simp [List.getD, hi]
  rw [e, Int.toNat_natCast, List.drop_eq_getElem_cons hi, List.take_succ_cons, List.take_zero, e2]
theorem go_step (b n i : Nat) (s : List UInt8) (hi : i < s.length) : Hp.digitsGo b n (s.drop i) = match Hp.digitOf b (s.getD i 0) with | none => none | some d => Hp.digitsGo b (if n > Hp.maxSize then n else n * b + d) (s.drop (i + 1)) := by
  rw [List.drop_eq_getElem_cons hi]
  have : s.getD i 0 = s[i] := by simp [List.getD, hi]
  rw [this]
  rfl
set_option maxRecDepth 4000 in
theorem c117 (G : Glob) (b : Nat) (hb : b ≤ 16) (hP : PuOk G b) (s : List UInt8) (hs : s.length ≤ 1099511627776) : CallsA Tryz.prog 117 (List.toArray [.string ⟨s.toArray⟩, .int .i64 (b : Int)]) (GL G) [] (fun v H' => v = .tuple (List.toArray [.int .i64 ((Hp.digitsP b s).1 : Int), .int .i64 ((Hp.digitsP b s).2 : Int)]) ∧ H' = []) := by
  refine callsA_of (args := [_, _]) Tryz.func117 rfl Tryz.ntmps117 (by simp) ?_
  intro w0 hH
  repeat' (first | refine stp ?_ | (refine g_guard ?_; (first | refine r_guardD rfl rfl rfl (fun hg hp => ?_) (fun hg hp => ?_) | refine r_guard rfl rfl rfl (fun hg => ?_) (fun hg => ?_))) | (refine g_load ?_; (first | (refine p_loadRF hH rfl rfl (by omega) tO ?_) | (refine p_loadSF hH rfl rfl tO ?_) | (refine p_loadSB hH rfl rfl tO ?_) | (refine p_loadRB hH rfl rfl (by omega) tO ?_) | (refine p_loadS hH rfl tW ?_))) | (refine g_call ?_; (first | (refine p_appendL hH rfl rfl (Reads1.own (v := .nilIface) (Sel.mem tSel)) rfl rfl rfl tO rfl (fun vb vc w hH => ?_)))) | refine n_buildSlice1 hH tE rfl rfl rfl rfl tN (fun g w hg hH => ?_) | (refine r_toInt Tryz.underlying183 Tryz.underlying3 rfl (wrap_small (by omega)) ?_) | (refine p_toTextS hH rfl rfl tO rfl ?_) | (refine p_neF rfl rfl ?_) | (refine p_eqF rfl rfl ?_) | (refine g_store ?_; (first | refine n_store hH rfl tE rfl rfl tN (fun w hH => ?_) | refine n_storeA hH rfl rfl rfl rfl rfl tN (fun w hH => ?_))) | refine n_alloc hH tW (fun g w hg hH => ?_) | (refine g_box ?_; (first | refine p_boxA hH rfl (fun g w hg hH => ?_) | refine p_boxI hH rfl (fun g w hg hH => ?_) | refine p_boxL hH rfl (fun g w hg hH => ?_))) | (refine g_cond ?_; (first | refine c_condD rfl (fun hc hp => ?_) (fun hc hp => ?_) | refine c_cond rfl (fun hc => ?_) (fun hc => ?_))) | refine d_start (P := Tryz.prog) hH (fun hH => ?_) | (refine g_any ?_; (first | (apply d_done; exact rfl; kernel_rfl) | (apply d_next; exact rfl; exact rfl; exact rfl; kernel_rfl; (first | (simp only [falses, setB]; exact rfl) | exact rfl); exact hH.sub tSub; (intro w hH; (repeat (first | refine stpO ?_ | (refine g_load ?_; (first | (refine p_loadRF hH rfl rfl (by omega) tO ?_) | (refine p_loadSF hH rfl rfl tO ?_) | (refine p_loadS hH rfl tW ?_))) | (refine p_neF rfl rfl ?_) | (refine p_eqF rfl rfl ?_))); exact r_nil one_end)) | (apply d_split; exact rfl; exact rfl; exact rfl; exact rfl; exact rfl; intro hg; rotate_left; intro hg; rotate_right) | (apply d_all1; exact rfl; kernel_rfl; exact rfl; exact rfl) | (apply d_all2; exact rfl; kernel_rfl; exact rfl; exact rfl; exact rfl; exact rfl) | (apply d_all3; exact rfl; kernel_rfl; exact rfl; exact rfl; exact rfl; exact rfl; exact rfl; exact rfl))) | refine then_end (hH.sub tSub) ?_)
  refine c_loopS (fun p : Nat × Nat => [(0, .string ⟨s.toArray⟩), (1, .int .i64 (b : Int)), (6, .int .i64 (p.2 : Int)), (7, .bool (decide ((9007199254740992 : Int) < (p.2 : Int)))), (12, .int .i64 (s.length : Int)), (13, .int .i64 (p.1 : Int))])
    (fun p w => p.1 ≤ s.length ∧ Hp.digitsGo b p.2 (s.drop p.1) = Hp.digitsGo b 0 s ∧ p.2 ≤ 9007199254740992 * 16 + 16 ∧ Holds w0 (bl []) w (GL G) []) (fun p => s.length - p.1) (0, 0) tAg ⟨by simp, rfl, by simp, hH⟩ (fun p f w hI => ?_)
  obtain ⟨i, n⟩ := p
  obtain ⟨hi, hgo, hn, hH⟩ := hI
  simp only at hi hgo hn ⊢
  by_cases hlt : i < s.length
  · have hc0 : decide ((i : Int) < (s.length : Int)) = true := by simpa using hlt
    have hcall := hP (s.getD i 0)
    rw [← one_at s i hlt] at hcall
    unfold puT at hcall
    have hstep := go_step b n i s hlt
    cases hd : Hp.digitOf b (s.getD i 0) with
    | none =>
      rw [hd] at hcall hstep
      repeat' (first | refine stp ?_ | (refine g_guard ?_; (first | refine r_guardD rfl rfl rfl (fun hg hp => ?_) (fun hg hp => ?_) | refine r_guard rfl rfl rfl (fun hg => ?_) (fun hg => ?_))) | (refine g_load ?_; (first | (refine p_loadRF hH rfl rfl (by omega) tO ?_) | (refine p_loadSF hH rfl rfl tO ?_) | (refine p_loadSB hH rfl rfl tO ?_) | (refine p_loadRB hH rfl rfl (by omega) tO ?_) | (refine p_loadS hH rfl tW ?_))) | (refine g_call ?_; (first | (refine k_call (g := 147) Tryz.func147 rfl rfl hH (EvL.cons (EvK.any rfl) (EvL.cons (EvK.any rfl) (EvL.cons (EvK.any rfl) EvL.nil))) (hcall) tTk tRd (fun v H1 w hT hH => ?_); obtain ⟨⟨N, rfl⟩, rfl⟩ := hT; simp only [List.nil_append, List.cons_append] at hH) | (refine p_appendL hH rfl rfl (Reads1.own (v := .nilIface) (Sel.mem tSel)) rfl rfl rfl tO rfl (fun vb vc w hH => ?_)))) | refine n_buildSlice1 hH tE rfl rfl rfl rfl tN (fun g w hg hH => ?_) | (refine r_toInt Tryz.underlying183 Tryz.underlying3 rfl (wrap_small (by omega)) ?_) | (refine p_toTextS hH rfl rfl tO rfl ?_) | (refine p_neF rfl rfl ?_) | (refine p_eqF rfl rfl ?_) | (refine g_store ?_; (first | refine n_store hH rfl tE rfl rfl tN (fun w hH => ?_) | refine n_storeA hH rfl rfl rfl rfl rfl tN (fun w hH => ?_))) | refine n_alloc hH tW (fun g w hg hH => ?_) | (refine g_box ?_; (first | refine p_boxA hH rfl (fun g w hg hH => ?_) | refine p_boxI hH rfl (fun g w hg hH => ?_) | refine p_boxL hH rfl (fun g w hg hH => ?_))) | (refine g_cond ?_; (first | refine c_condD rfl (fun hc hp => ?_) (fun hc hp => ?_) | refine c_cond rfl (fun hc => ?_) (fun hc => ?_))) | refine d_start (P := Tryz.prog) hH (fun hH => ?_) | (refine g_any ?_; (first | (apply d_done; exact rfl; kernel_rfl) | (apply d_next; exact rfl; exact rfl; exact rfl; kernel_rfl; (first | (simp only [falses, setB]; exact rfl) | exact rfl); exact hH.sub tSub; (intro w hH; (repeat (first | refine stpO ?_ | (refine g_load ?_; (first | (refine p_loadRF hH rfl rfl (by omega) tO ?_) | (refine p_loadSF hH rfl rfl tO ?_) | (refine p_loadS hH rfl tW ?_))) | (refine p_neF rfl rfl ?_) | (refine p_eqF rfl rfl ?_))); exact r_nil one_end)) | (apply d_split; exact rfl; exact rfl; exact rfl; exact rfl; exact rfl; intro hg; rotate_left; intro hg; rotate_right) | (apply d_all1; exact rfl; kernel_rfl; exact rfl; exact rfl) | (apply d_all2; exact rfl; kernel_rfl; exact rfl; exact rfl; exact rfl; exact rfl) | (apply d_all3; exact rfl; kernel_rfl; exact rfl; exact rfl; exact rfl; exact rfl; exact rfl; exact rfl))) | refine then_end (hH.sub tSub) ?_)
      all_goals refine e_end (res2 rfl tW tW) hH ⟨?_, rfl⟩ tTk
      all_goals (rw [Hp.digitsP, ← hgo, hstep]; rfl)
    | some d =>
      rw [hd] at hcall hstep
      have hdl := digit_lt hd
      have hm0 : (0 : Int) ≤ (n : Int) * (b : Int) := Int.mul_nonneg (by omega) (by omega)
      by_cases hx : (9007199254740992 : Int) < (n : Int)
      · have hx1 : decide ((9007199254740992 : Int) < (n : Int)) = true := by simpa using hx
        have hx2 : (!decide ((9007199254740992 : Int) < (n : Int))) = false := by rw [hx1]; rfl
        repeat' (first | refine stp ?_ | (refine g_guard ?_; (first | refine r_guardD rfl rfl rfl (fun hg hp => ?_) (fun hg hp => ?_) | refine r_guard rfl rfl rfl (fun hg => ?_) (fun hg => ?_))) | (refine g_load ?_; (first | (refine p_loadRF hH rfl rfl (by omega) tO ?_) | (refine p_loadSF hH rfl rfl tO ?_) | (refine p_loadSB hH rfl rfl tO ?_) | (refine p_loadRB hH rfl rfl (by omega) tO ?_) | (refine p_loadS hH rfl tW ?_))) | (refine g_call ?_; (first | (refine k_call (g := 147) Tryz.func147 rfl rfl hH (EvL.cons (EvK.any rfl) (EvL.cons (EvK.any rfl) (EvL.cons (EvK.any rfl) EvL.nil))) (hcall) tTk tRd (fun v H1 w hT hH => ?_); obtain ⟨rfl, rfl⟩ := hT; simp only [List.nil_append, List.cons_append] at hH) | (refine p_appendL hH rfl rfl (Reads1.own (v := .nilIface) (Sel.mem tSel)) rfl rfl rfl tO rfl (fun vb vc w hH => ?_)))) | refine n_buildSlice1 hH tE rfl rfl rfl rfl tN (fun g w hg hH => ?_) | (refine r_toInt Tryz.underlying183 Tryz.underlying3 rfl (wrap_small (by omega)) ?_) | (refine p_toTextS hH rfl rfl tO rfl ?_) | (refine p_neF rfl rfl ?_) | (refine p_eqF rfl rfl ?_) | (refine g_store ?_; (first | refine n_store hH rfl tE rfl rfl tN (fun w hH => ?_) | refine n_storeA hH rfl rfl rfl rfl rfl tN (fun w hH => ?_))) | refine n_alloc hH tW (fun g w hg hH => ?_) | (refine g_box ?_; (first | refine p_boxA hH rfl (fun g w hg hH => ?_) | refine p_boxI hH rfl (fun g w hg hH => ?_) | refine p_boxL hH rfl (fun g w hg hH => ?_))) | (refine g_cond ?_; (first | refine c_condD rfl (fun hc hp => ?_) (fun hc hp => ?_) | refine c_cond rfl (fun hc => ?_) (fun hc => ?_))) | refine d_start (P := Tryz.prog) hH (fun hH => ?_) | (refine g_any ?_; (first | (apply d_done; exact rfl; kernel_rfl) | (apply d_next; exact rfl; exact rfl; exact rfl; kernel_rfl; (first | (simp only [falses, setB]; exact rfl) | exact rfl); exact hH.sub tSub; (intro w hH; (repeat (first | refine stpO ?_ | (refine g_load ?_; (first | (refine p_loadRF hH rfl rfl (by omega) tO ?_) | (refine p_loadSF hH rfl rfl tO ?_) | (refine p_loadS hH rfl tW ?_))) | (refine p_neF rfl rfl ?_) | (refine p_eqF rfl rfl ?_))); exact r_nil one_end)) | (apply d_split; exact rfl; exact rfl; exact rfl; exact rfl; exact rfl; intro hg; rotate_left; intro hg; rotate_right) | (apply d_all1; exact rfl; kernel_rfl; exact rfl; exact rfl) | (apply d_all2; exact rfl; kernel_rfl; exact rfl; exact rfl; exact rfl; exact rfl) | (apply d_all3; exact rfl; kernel_rfl; exact rfl; exact rfl; exact rfl; exact rfl; exact rfl; exact rfl))) | refine then_end (hH.sub tSub) ?_)
        refine ⟨(i + 1, n), _, _, by simp; omega, rfl, tAg, by simp; omega, ?_, by simp; omega, hH⟩
        rw [← hgo, hstep]
        simp only
        rw [if_pos (by simp only [Hp.maxSize]; omega)]
      · have hx1 : decide ((9007199254740992 : Int) < (n : Int)) = false := by simpa using hx
        have hx2 : (!decide ((9007199254740992 : Int) < (n : Int))) = true := by rw [hx1]; rfl
        have hm1 : (n : Int) * (b : Int) ≤ 9007199254740992 * 16 := by
          have : n * b ≤ 9007199254740992 * 16 := Nat.mul_le_mul (by omega) hb
          have h2 : ((n * b : Nat) : Int) = (n : Int) * (b : Int) := Int.natCast_mul n b
          rw [← h2]; omega
        repeat' (first | refine stp ?_ | (refine g_guard ?_; (first | refine r_guardD rfl rfl rfl (fun hg hp => ?_) (fun hg hp => ?_) | refine r_guard rfl rfl rfl (fun hg => ?_) (fun hg => ?_))) | (refine g_load ?_; (first | (refine p_loadRF hH rfl rfl (by omega) tO ?_) | (refine p_loadSF hH rfl rfl tO ?_) | (refine p_loadSB hH rfl rfl tO ?_) | (refine p_loadRB hH rfl rfl (by omega) tO ?_) | (refine p_loadS hH rfl tW ?_))) | (refine g_call ?_; (first | (refine k_call (g := 147) Tryz.func147 rfl rfl hH (EvL.cons (EvK.any rfl) (EvL.cons (EvK.any rfl) (EvL.cons (EvK.any rfl) EvL.nil))) (hcall) tTk tRd (fun v H1 w hT hH => ?_); obtain ⟨rfl, rfl⟩ := hT; simp only [List.nil_append, List.cons_append] at hH) | (refine p_appendL hH rfl rfl (Reads1.own (v := .nilIface) (Sel.mem tSel)) rfl rfl rfl tO rfl (fun vb vc w hH => ?_)))) | refine n_buildSlice1 hH tE rfl rfl rfl rfl tN (fun g w hg hH => ?_) | (refine r_toInt Tryz.underlying183 Tryz.underlying3 rfl (wrap_small (by omega)) ?_) | (refine p_toTextS hH rfl rfl tO rfl ?_) | (refine p_neF rfl rfl ?_) | (refine p_eqF rfl rfl ?_) | (refine g_store ?_; (first | refine n_store hH rfl tE rfl rfl tN (fun w hH => ?_) | refine n_storeA hH rfl rfl rfl rfl rfl tN (fun w hH => ?_))) | refine n_alloc hH tW (fun g w hg hH => ?_) | (refine g_box ?_; (first | refine p_boxA hH rfl (fun g w hg hH => ?_) | refine p_boxI hH rfl (fun g w hg hH => ?_) | refine p_boxL hH rfl (fun g w hg hH => ?_))) | (refine g_cond ?_; (first | refine c_condD rfl (fun hc hp => ?_) (fun hc hp => ?_) | refine c_cond rfl (fun hc => ?_) (fun hc => ?_))) | refine d_start (P := Tryz.prog) hH (fun hH => ?_) | (refine g_any ?_; (first | (apply d_done; exact rfl; kernel_rfl) | (apply d_next; exact rfl; exact rfl; exact rfl; kernel_rfl; (first | (simp only [falses, setB]; exact rfl) | exact rfl); exact hH.sub tSub; (intro w hH; (repeat (first | refine stpO ?_ | (refine g_load ?_; (first | (refine p_loadRF hH rfl rfl (by omega) tO ?_) | (refine p_loadSF hH rfl rfl tO ?_) | (refine p_loadS hH rfl tW ?_))) | (refine p_neF rfl rfl ?_) | (refine p_eqF rfl rfl ?_))); exact r_nil one_end)) | (apply d_split; exact rfl; exact rfl; exact rfl; exact rfl; exact rfl; intro hg; rotate_left; intro hg; rotate_right) | (apply d_all1; exact rfl; kernel_rfl; exact rfl; exact rfl) | (apply d_all2; exact rfl; kernel_rfl; exact rfl; exact rfl; exact rfl; exact rfl) | (apply d_all3; exact rfl; kernel_rfl; exact rfl; exact rfl; exact rfl; exact rfl; exact rfl; exact rfl))) | refine then_end (hH.sub tSub) ?_)
        refine ⟨(i + 1, n * b + d), _, _, by simp; omega, rfl, tAg, by simp; omega, ?_, by simp; omega, hH⟩
        rw [← hgo, hstep]
        simp only
        rw [if_neg (by simp only [Hp.maxSize]; omega)]
  · have hc0 : decide ((i : Int) < (s.length : Int)) = false := by simpa using hlt
    have hgo2 : Hp.digitsGo b 0 s = some n := by rw [← hgo, List.drop_of_length_le (by omega)]; rfl
    repeat' (first | refine stp ?_ | (refine g_guard ?_; (first | refine r_guardD rfl rfl rfl (fun hg hp => ?_) (fun hg hp => ?_) | refine r_guard rfl rfl rfl (fun hg => ?_) (fun hg => ?_))) | (refine g_load ?_; (first | (refine p_loadRF hH rfl rfl (by omega) tO ?_) | (refine p_loadSF hH rfl rfl tO ?_) | (refine p_loadSB hH rfl rfl tO ?_) | (refine p_loadRB hH rfl rfl (by omega) tO ?_) | (refine p_loadS hH rfl tW ?_))) | (refine g_call ?_; (first | (refine p_appendL hH rfl rfl (Reads1.own (v := .nilIface) (Sel.mem tSel)) rfl rfl rfl tO rfl (fun vb vc w hH => ?_)))) | refine n_buildSlice1 hH tE rfl rfl rfl rfl tN (fun g w hg hH => ?_) | (refine r_toInt Tryz.underlying183 Tryz.underlying3 rfl (wrap_small (by omega)) ?_) | (refine p_toTextS hH rfl rfl tO rfl ?_) | (refine p_neF rfl rfl ?_) | (refine p_eqF rfl rfl ?_) | (refine g_store ?_; (first | refine n_store hH rfl tE rfl rfl tN (fun w hH => ?_) | refine n_storeA hH rfl rfl rfl rfl rfl tN (fun w hH => ?_))) | refine n_alloc hH tW (fun g w hg hH => ?_) | (refine g_box ?_; (first | refine p_boxA hH rfl (fun g w hg hH => ?_) | refine p_boxI hH rfl (fun g w hg hH => ?_) | refine p_boxL hH rfl (fun g w hg hH => ?_))) | (refine g_cond ?_; (first | refine c_condD rfl (fun hc hp => ?_) (fun hc hp => ?_) | refine c_cond rfl (fun hc => ?_) (fun hc => ?_))) | refine d_start (P := Tryz.prog) hH (fun hH => ?_) | (refine g_any ?_; (first | (apply d_done; exact rfl; kernel_rfl) | (apply d_next; exact rfl; exact rfl; exact rfl; kernel_rfl; (first | (simp only [falses, setB]; exact rfl) | exact rfl); exact hH.sub tSub; (intro w hH; (repeat (first | refine stpO ?_ | (refine g_load ?_; (first | (refine p_loadRF hH rfl rfl (by omega) tO ?_) | (refine p_loadSF hH rfl rfl tO ?_) | (refine p_loadS hH rfl tW ?_))) | (refine p_neF rfl rfl ?_) | (refine p_eqF rfl rfl ?_))); exact r_nil one_end)) | (apply d_split; exact rfl; exact rfl; exact rfl; exact rfl; exact rfl; intro hg; rotate_left; intro hg; rotate_right) | (apply d_all1; exact rfl; kernel_rfl; exact rfl; exact rfl) | (apply d_all2; exact rfl; kernel_rfl; exact rfl; exact rfl; exact rfl; exact rfl) | (apply d_all3; exact rfl; kernel_rfl; exact rfl; exact rfl; exact rfl; exact rfl; exact rfl; exact rfl))) | refine then_end (hH.sub tSub) ?_)
    all_goals refine e_end (res2 rfl tW tW) hH ⟨?_, rfl⟩ tTk
    · rw [Hp.digitsP, hgo2]; simp only; rw [if_pos hp]; rfl
    · rw [Hp.digitsP, hgo2]; simp only; rw [if_neg (by assumption), if_pos (by simp only [Hp.maxSize]; omega)]; rfl
    · rw [Hp.digitsP, hgo2]; simp only; rw [if_neg (by assumption), if_neg (by simp only [Hp.maxSize]; omega)]; rfl
theorem c85 (G : Glob) (s : List UInt8) (hs : s.length ≤ 1099511627776) : CallsA Tryz.prog 85 (List.toArray [.string ⟨s.toArray⟩]) (GL G) [] (fun v H' => v = .tuple (List.toArray [.int .i64 ((Hp.digitsP 10 s).1 : Int), .int .i64 ((Hp.digitsP 10 s).2 : Int)]) ∧ H' = []) := by
  refine callsA_of (args := [_]) Tryz.func85 rfl Tryz.ntmps85 (by simp) ?_
  intro w0 hH
  repeat' (first | refine stp ?_ | (refine g_guard ?_; (first | refine r_guardD rfl rfl rfl (fun hg hp => ?_) (fun hg hp => ?_) | refine r_guard rfl rfl rfl (fun hg => ?_) (fun hg => ?_))) | (refine g_load ?_; (first | (refine p_loadRF hH rfl rfl (by omega) tO ?_) | (refine p_loadSF hH rfl rfl tO ?_) | (refine p_loadSB hH rfl rfl tO ?_) | (refine p_loadRB hH rfl rfl (by omega) tO ?_) | (refine p_loadS hH rfl tW ?_))) | (refine g_call ?_; (first | (refine k_call (g := 117) Tryz.func117 rfl rfl hH (EvL.cons (EvK.any rfl) (EvL.cons (EvK.any rfl) EvL.nil)) (c117 G 10 (by omega) (pu10 G) s hs) tTk tRd (fun v H1 w hT hH => ?_); obtain ⟨rfl, rfl⟩ := hT; simp only [List.nil_append, List.cons_append] at hH) | (refine p_appendL hH rfl rfl (Reads1.own (v := .nilIface) (Sel.mem tSel)) rfl rfl rfl tO rfl (fun vb vc w hH => ?_)))) | refine n_buildSlice1 hH tE rfl rfl rfl rfl tN (fun g w hg hH => ?_) | (refine r_toInt Tryz.underlying183 Tryz.underlying3 rfl (wrap_small (by omega)) ?_) | (refine p_toTextS hH rfl rfl tO rfl ?_) | (refine p_neF rfl rfl ?_) | (refine p_eqF rfl rfl ?_) | (refine g_store ?_; (first | refine n_store hH rfl tE rfl rfl tN (fun w hH => ?_) | refine n_storeA hH rfl rfl rfl rfl rfl tN (fun w hH => ?_))) | refine n_alloc hH tW (fun g w hg hH => ?_) | (refine g_box ?_; (first | refine p_boxA hH rfl (fun g w hg hH => ?_) | refine p_boxI hH rfl (fun g w hg hH => ?_) | refine p_boxL hH rfl (fun g w hg hH => ?_))) | (refine g_cond ?_; (first | refine c_condD rfl (fun hc hp => ?_) (fun hc hp => ?_) | refine c_cond rfl (fun hc => ?_) (fun hc => ?_))) | refine d_start (P := Tryz.prog) hH (fun hH => ?_) | (refine g_any ?_; (first | (apply d_done; exact rfl; kernel_rfl) | (apply d_next; exact rfl; exact rfl; exact rfl; kernel_rfl; (first | (simp only [falses, setB]; exact rfl) | exact rfl); exact hH.sub tSub; (intro w hH; (repeat (first | refine stpO ?_ | (refine g_load ?_; (first | (refine p_loadRF hH rfl rfl (by omega) tO ?_) | (refine p_loadSF hH rfl rfl tO ?_) | (refine p_loadS hH rfl tW ?_))) | (refine p_neF rfl rfl ?_) | (refine p_eqF rfl rfl ?_))); exact r_nil one_end)) | (apply d_split; exact rfl; exact rfl; exact rfl; exact rfl; exact rfl; intro hg; rotate_left; intro hg; rotate_right) | (apply d_all1; exact rfl; kernel_rfl; exact rfl; exact rfl) | (apply d_all2; exact rfl; kernel_rfl; exact rfl; exact rfl; exact rfl; exact rfl) | (apply d_all3; exact rfl; kernel_rfl; exact rfl; exact rfl; exact rfl; exact rfl; exact rfl; exact rfl))) | refine then_end (hH.sub tSub) ?_)
  all_goals refine e_end (res2 rfl tW tW) hH ⟨?_, rfl⟩ tTk
  all_goals rfl

end Go.Proofs.YtiofekhdicfmoaaGreatDoor

namespace Go.Proofs.YtiofekhdicfmoaaGreatDoor
open Go Go.Hr
attribute [local irreducible] Go.wpList Go.Code.wp Go.Calls Go.Hr.CallsA Go.wpAnyH Go.callFunc Go.callMethod Go.Instr.typeAssert Go.Sem.run
set_option maxHeartbeats 4000000
set_option linter.all false

def errV (s : Option Int) (c : Int) : Value := match s with
  | none => .iface 129 (.agg (List.toArray [.int .i64 c]))
  | some n => .iface 127 (.agg (List.toArray [.int .i64 n, .iface 129 (.agg (List.toArray [.int .i64 c]))]))
theorem c230 (n : Int) (v : Value) : CallsA Tryz.prog 230 (List.toArray [.agg (List.toArray [.int .i64 n, v])]) [] [] (fun u H' => u = v ∧ H' = []) := by
  refine callsA_of (args := [_]) Tryz.func230 rfl Tryz.ntmps230 (by simp) ?_
  intro w0 hH
  repeat' (first | refine stp ?_ | (refine g_guard ?_; (first | refine r_guardD rfl rfl rfl (fun hg hp => ?_) (fun hg hp => ?_) | refine r_guard rfl rfl rfl (fun hg => ?_) (fun hg => ?_))) | (refine g_load ?_; (first | refine p_loadG hH rfl (gErrT_mem G) rfl rfl rfl ?_ | (refine p_loadSB hH rfl rfl tO ?_) | (refine p_loadRB hH rfl rfl (by omega) tO ?_) | (refine p_loadS hH rfl tW ?_))) | (refine g_call ?_; (first | (refine p_appendL hH rfl rfl (Reads1.own (v := .nilIface) (Sel.mem tSel)) rfl rfl rfl tO rfl (fun vb vc w hH => ?_)))) | refine n_buildSlice1 hH tE rfl rfl rfl rfl tN (fun g w hg hH => ?_) | (refine r_toInt Tryz.underlying183 Tryz.underlying3 rfl (wrap_small (by omega)) ?_) | (refine p_toTextS hH rfl rfl tO rfl ?_) | refine p_assert tE (xTA _) ?_ | refine p_assert tE (xTB _) ?_ | (refine g_store ?_; (first | refine n_store hH rfl tE rfl rfl tN (fun w hH => ?_) | refine n_storeA hH rfl rfl rfl rfl rfl tN (fun w hH => ?_))) | refine n_alloc hH tW (fun g w hg hH => ?_) | (refine g_box ?_; (first | refine p_boxA hH rfl (fun g w hg hH => ?_) | refine p_boxI hH rfl (fun g w hg hH => ?_) | refine p_boxL hH rfl (fun g w hg hH => ?_))) | (refine g_cond ?_; (first | refine c_condD rfl (fun hc hp => ?_) (fun hc hp => ?_) | refine c_cond rfl (fun hc => ?_) (fun hc => ?_))) | refine d_start (P := Tryz.prog) hH (fun hH => ?_) | (refine g_any ?_; (first | (apply d_done; exact rfl; kernel_rfl) | (apply d_next; exact rfl; exact rfl; exact rfl; kernel_rfl; (first | (simp only [falses, setB]; exact rfl) | exact rfl); exact hH.sub tSub; (intro w hH; (repeat (first | refine stpO ?_ | (refine g_load ?_; (first | (refine p_loadS hH rfl tW ?_))))); exact r_nil one_end)) | (apply d_split; exact rfl; exact rfl; exact rfl; exact rfl; exact rfl; intro hg; rotate_left; intro hg; rotate_right) | (apply d_all1; exact rfl; kernel_rfl; exact rfl; exact rfl) | (apply d_all2; exact rfl; kernel_rfl; exact rfl; exact rfl; exact rfl; exact rfl) | (apply d_all3; exact rfl; kernel_rfl; exact rfl; exact rfl; exact rfl; exact rfl; exact rfl; exact rfl))) | refine then_end (hH.sub tSub) ?_)
  all_goals refine e_end (res1 rfl tW) hH ⟨?_, rfl⟩ tTk
  all_goals rfl
theorem c93 (tg b : Nat) (s : Option Int) (c o : Int) : CallsA Tryz.prog 93 (List.toArray [errV s c, .iface 131 (.pointer (some ⟨tg, 0, none⟩)), .agg (List.toArray [.pointer (some ⟨9, 131, none⟩), .pointer (some ⟨b, 0, none⟩), .int .u64 150]), .iface 192 (.agg (List.toArray [.pointer (some ⟨9, 129, none⟩)]))])
    [] [.pt tg 129 [.int .i64 o], .pt b 131 [.pointer (some ⟨tg, 0, none⟩)]] (fun u H' => u = .bool true ∧ H' = [.pt tg 129 [.int .i64 c]]) := by
  refine callsA_of (args := [_, _, _, _]) Tryz.func93 rfl Tryz.ntmps93 (by simp) ?_
  intro w0 hH
  repeat' (first | refine stp ?_ | (refine g_guard ?_; (first | refine r_guardD rfl rfl rfl (fun hg hp => ?_) (fun hg hp => ?_) | refine r_guard rfl rfl rfl (fun hg => ?_) (fun hg => ?_))) | (refine g_load ?_; (first | refine p_loadG hH rfl (gErrT_mem G) rfl rfl rfl ?_ | (refine p_loadSB hH rfl rfl tO ?_) | (refine p_loadRB hH rfl rfl (by omega) tO ?_) | (refine p_loadS hH rfl tW ?_))) | (refine g_call ?_; (first | (refine p_appendL hH rfl rfl (Reads1.own (v := .nilIface) (Sel.mem tSel)) rfl rfl rfl tO rfl (fun vb vc w hH => ?_)))) | refine n_buildSlice1 hH tE rfl rfl rfl rfl tN (fun g w hg hH => ?_) | (refine r_toInt Tryz.underlying183 Tryz.underlying3 rfl (wrap_small (by omega)) ?_) | (refine p_toTextS hH rfl rfl tO rfl ?_) | refine p_assert tE (xTA _) ?_ | refine p_assert tE (xTB _) ?_ | (refine g_store ?_; (first | refine n_store hH rfl tE rfl rfl tN (fun w hH => ?_) | refine n_storeA hH rfl rfl rfl rfl rfl tN (fun w hH => ?_))) | refine n_alloc hH tW (fun g w hg hH => ?_) | (refine g_box ?_; (first | refine p_boxA hH rfl (fun g w hg hH => ?_) | refine p_boxI hH rfl (fun g w hg hH => ?_) | refine p_boxL hH rfl (fun g w hg hH => ?_))) | (refine g_cond ?_; (first | refine c_condD rfl (fun hc hp => ?_) (fun hc hp => ?_) | refine c_cond rfl (fun hc => ?_) (fun hc => ?_))) | refine d_start (P := Tryz.prog) hH (fun hH => ?_) | (refine g_any ?_; (first | (apply d_done; exact rfl; kernel_rfl) | (apply d_next; exact rfl; exact rfl; exact rfl; kernel_rfl; (first | (simp only [falses, setB]; exact rfl) | exact rfl); exact hH.sub tSub; (intro w hH; (repeat (first | refine stpO ?_ | (refine g_load ?_; (first | (refine p_loadS hH rfl tW ?_))))); exact r_nil one_end)) | (apply d_split; exact rfl; exact rfl; exact rfl; exact rfl; exact rfl; intro hg; rotate_left; intro hg; rotate_right) | (apply d_all1; exact rfl; kernel_rfl; exact rfl; exact rfl) | (apply d_all2; exact rfl; kernel_rfl; exact rfl; exact rfl; exact rfl; exact rfl) | (apply d_all3; exact rfl; kernel_rfl; exact rfl; exact rfl; exact rfl; exact rfl; exact rfl; exact rfl))) | refine then_end (hH.sub tSub) ?_)
  refine c_loopS (fun s : Option Int => [(0, errV s c), (1, .iface 131 (.pointer (some ⟨tg, 0, none⟩))), (3, .iface 192 (.agg (List.toArray [.pointer (some ⟨9, 129, none⟩)]))), (6, .pointer (some ⟨g, 0, none⟩))])
    (fun s w => Holds w0 (bl [.pt tg 129 [.int .i64 o], .pt b 131 [.pointer (some ⟨tg, 0, none⟩)]]) w [] [.pt g 154 [.pointer (some ⟨9, 131, none⟩), .pointer (some ⟨b, 0, none⟩), .int .u64 150], .pt tg 129 [.int .i64 o], .pt b 131 [.pointer (some ⟨tg, 0, none⟩)]])
    (fun s => match s with | none => 0 | some _ => 1) s tAg hH (fun s f w hI => ?_)
  have hH := hI
  clear hI
  cases s
  · simp only [errV]
    repeat' (first | refine stp ?_ | (refine g_guard ?_; (first | refine r_guardD rfl rfl rfl (fun hg hp => ?_) (fun hg hp => ?_) | refine r_guard rfl rfl rfl (fun hg => ?_) (fun hg => ?_))) | (refine g_load ?_; (first | refine p_loadG hH rfl (gErrT_mem G) rfl rfl rfl ?_ | (refine p_loadSB hH rfl rfl tO ?_) | (refine p_loadRB hH rfl rfl (by omega) tO ?_) | (refine p_loadS hH rfl tW ?_))) | (refine g_call ?_; (first | (refine x_val (EvL.cons (EvK.any rfl) EvL.nil) (xTypeOf _ _) ?_) | (refine x_val (EvL.cons (EvK.any rfl) EvL.nil) (xTypeOf' _ _) ?_) | (refine i_val tE (EvL.cons (EvK.any rfl) EvL.nil) (xAss _) ?_) | (refine i_val tE (EvL.cons (EvK.any rfl) EvL.nil) (xAss' _) ?_) | (refine i_val tE EvL.nil (xKind131 _) ?_) | (refine i_val tE EvL.nil (xKind129 _) ?_) | (refine i_val tE EvL.nil (xElem _) ?_) | (refine i_val tE (EvL.cons (EvK.any rfl) EvL.nil) (xImpl _) ?_) | (refine x_val (EvL.cons (EvK.any rfl) EvL.nil) (x91 _ _) ?_) | (refine x_val (EvL.cons (EvK.any rfl) EvL.nil) (x122 _ _ _ (cell_pt hH tSel rfl)) ?_) | (refine x_val (EvL.cons (EvK.any rfl) EvL.nil) (x92 _ _ _ (cell_pt hH tSel rfl)) ?_) | (refine x_alloc (vf := fun N => .agg #[.pointer (some ⟨9, 129, none⟩), .pointer (some ⟨N, 0, none⟩), .int .u64 153]) (cs := [.int .i64 c]) (EvL.cons (EvK.any rfl) EvL.nil) (x90b _) hH (fun b w hb hH => ?_)) | (refine x_alloc (vf := fun N => .agg #[.pointer (some ⟨9, 131, none⟩), .pointer (some ⟨N, 0, none⟩), .int .u64 150]) (cs := [.pointer (some ⟨tg, 0, none⟩)]) (EvL.cons (EvK.any rfl) EvL.nil) (x90a _) hH (fun b w hb hH => ?_)) | (refine x_val (EvL.cons (EvK.any rfl) (EvL.cons (EvK.any rfl) EvL.nil)) (x123 _ _ _ _ _ (cell_pt hH tSel rfl) (cell_pt hH tSel rfl) (frozen_pt hH tSel _)) ?_; replace hH := hH.set (b := tg) (i := 0) tSel (.int .i64 c)) | (refine i_call tE EvL.nil (xUn _ _) hH (c230 _ _) tTk ReadsAll.nil (fun v H1 w hT hH => ?_); obtain ⟨rfl, rfl⟩ := hT; simp only [List.nil_append] at hH) | (refine p_appendL hH rfl rfl (Reads1.own (v := .nilIface) (Sel.mem tSel)) rfl rfl rfl tO rfl (fun vb vc w hH => ?_)))) | refine n_buildSlice1 hH tE rfl rfl rfl rfl tN (fun g w hg hH => ?_) | (refine r_toInt Tryz.underlying183 Tryz.underlying3 rfl (wrap_small (by omega)) ?_) | (refine p_toTextS hH rfl rfl tO rfl ?_) | refine p_assert tE (xTA _) ?_ | refine p_assert tE (xTB _) ?_ | (refine g_store ?_; (first | refine n_store hH rfl tE rfl rfl tN (fun w hH => ?_) | refine n_storeA hH rfl rfl rfl rfl rfl tN (fun w hH => ?_))) | refine n_alloc hH tW (fun g w hg hH => ?_) | (refine g_box ?_; (first | refine p_boxA hH rfl (fun g w hg hH => ?_) | refine p_boxI hH rfl (fun g w hg hH => ?_) | refine p_boxL hH rfl (fun g w hg hH => ?_))) | (refine g_cond ?_; (first | refine c_condD rfl (fun hc hp => ?_) (fun hc hp => ?_) | refine c_cond rfl (fun hc => ?_) (fun hc => ?_))) | refine d_start (P := Tryz.prog) hH (fun hH => ?_) | (refine g_any ?_; (first | (apply d_done; exact rfl; kernel_rfl) | (apply d_next; exact rfl; exact rfl; exact rfl; kernel_rfl; (first | (simp only [falses, setB]; exact rfl) | exact rfl); exact hH.sub tSub; (intro w hH; (repeat (first | refine stpO ?_ | (refine g_load ?_; (first | (refine p_loadS hH rfl tW ?_))))); exact r_nil one_end)) | (apply d_split; exact rfl; exact rfl; exact rfl; exact rfl; exact rfl; intro hg; rotate_left; intro hg; rotate_right) | (apply d_all1; exact rfl; kernel_rfl; exact rfl; exact rfl) | (apply d_all2; exact rfl; kernel_rfl; exact rfl; exact rfl; exact rfl; exact rfl) | (apply d_all3; exact rfl; kernel_rfl; exact rfl; exact rfl; exact rfl; exact rfl; exact rfl; exact rfl))) | refine then_end (hH.sub tSub) ?_)
    all_goals refine e_end (res1 rfl tW) hH ⟨?_, rfl⟩ tTk
    all_goals rfl
  · simp only [errV]
    repeat' (first | refine stp ?_ | (refine g_guard ?_; (first | refine r_guardD rfl rfl rfl (fun hg hp => ?_) (fun hg hp => ?_) | refine r_guard rfl rfl rfl (fun hg => ?_) (fun hg => ?_))) | (refine g_load ?_; (first | refine p_loadG hH rfl (gErrT_mem G) rfl rfl rfl ?_ | (refine p_loadSB hH rfl rfl tO ?_) | (refine p_loadRB hH rfl rfl (by omega) tO ?_) | (refine p_loadS hH rfl tW ?_))) | (refine g_call ?_; (first | (refine x_val (EvL.cons (EvK.any rfl) EvL.nil) (xTypeOf _ _) ?_) | (refine x_val (EvL.cons (EvK.any rfl) EvL.nil) (xTypeOf' _ _) ?_) | (refine i_val tE (EvL.cons (EvK.any rfl) EvL.nil) (xAss _) ?_) | (refine i_val tE (EvL.cons (EvK.any rfl) EvL.nil) (xAss' _) ?_) | (refine i_val tE EvL.nil (xKind131 _) ?_) | (refine i_val tE EvL.nil (xKind129 _) ?_) | (refine i_val tE EvL.nil (xElem _) ?_) | (refine i_val tE (EvL.cons (EvK.any rfl) EvL.nil) (xImpl _) ?_) | (refine x_val (EvL.cons (EvK.any rfl) EvL.nil) (x91 _ _) ?_) | (refine x_val (EvL.cons (EvK.any rfl) EvL.nil) (x122 _ _ _ (cell_pt hH tSel rfl)) ?_) | (refine x_val (EvL.cons (EvK.any rfl) EvL.nil) (x92 _ _ _ (cell_pt hH tSel rfl)) ?_) | (refine x_alloc (vf := fun N => .agg #[.pointer (some ⟨9, 129, none⟩), .pointer (some ⟨N, 0, none⟩), .int .u64 153]) (cs := [.int .i64 c]) (EvL.cons (EvK.any rfl) EvL.nil) (x90b _) hH (fun b w hb hH => ?_)) | (refine x_alloc (vf := fun N => .agg #[.pointer (some ⟨9, 131, none⟩), .pointer (some ⟨N, 0, none⟩), .int .u64 150]) (cs := [.pointer (some ⟨tg, 0, none⟩)]) (EvL.cons (EvK.any rfl) EvL.nil) (x90a _) hH (fun b w hb hH => ?_)) | (refine x_val (EvL.cons (EvK.any rfl) (EvL.cons (EvK.any rfl) EvL.nil)) (x123 _ _ _ _ _ (cell_pt hH tSel rfl) (cell_pt hH tSel rfl) (frozen_pt hH tSel _)) ?_; replace hH := hH.set (b := tg) (i := 0) tSel (.int .i64 c)) | (refine i_call tE EvL.nil (xUn _ _) hH (c230 _ _) tTk ReadsAll.nil (fun v H1 w hT hH => ?_); obtain ⟨rfl, rfl⟩ := hT; simp only [List.nil_append] at hH) | (refine p_appendL hH rfl rfl (Reads1.own (v := .nilIface) (Sel.mem tSel)) rfl rfl rfl tO rfl (fun vb vc w hH => ?_)))) | refine n_buildSlice1 hH tE rfl rfl rfl rfl tN (fun g w hg hH => ?_) | (refine r_toInt Tryz.underlying183 Tryz.underlying3 rfl (wrap_small (by omega)) ?_) | (refine p_toTextS hH rfl rfl tO rfl ?_) | refine p_assert tE (xTA _) ?_ | refine p_assert tE (xTB _) ?_ | (refine g_store ?_; (first | refine n_store hH rfl tE rfl rfl tN (fun w hH => ?_) | refine n_storeA hH rfl rfl rfl rfl rfl tN (fun w hH => ?_))) | refine n_alloc hH tW (fun g w hg hH => ?_) | (refine g_box ?_; (first | refine p_boxA hH rfl (fun g w hg hH => ?_) | refine p_boxI hH rfl (fun g w hg hH => ?_) | refine p_boxL hH rfl (fun g w hg hH => ?_))) | (refine g_cond ?_; (first | refine c_condD rfl (fun hc hp => ?_) (fun hc hp => ?_) | refine c_cond rfl (fun hc => ?_) (fun hc => ?_))) | refine d_start (P := Tryz.prog) hH (fun hH => ?_) | (refine g_any ?_; (first | (apply d_done; exact rfl; kernel_rfl) | (apply d_next; exact rfl; exact rfl; exact rfl; kernel_rfl; (first | (simp only [falses, setB]; exact rfl) | exact rfl); exact hH.sub tSub; (intro w hH; (repeat (first | refine stpO ?_ | (refine g_load ?_; (first | (refine p_loadS hH rfl tW ?_))))); exact r_nil one_end)) | (apply d_split; exact rfl; exact rfl; exact rfl; exact rfl; exact rfl; intro hg; rotate_left; intro hg; rotate_right) | (apply d_all1; exact rfl; kernel_rfl; exact rfl; exact rfl) | (apply d_all2; exact rfl; kernel_rfl; exact rfl; exact rfl; exact rfl; exact rfl) | (apply d_all3; exact rfl; kernel_rfl; exact rfl; exact rfl; exact rfl; exact rfl; exact rfl; exact rfl))) | refine then_end (hH.sub tSub) ?_)
    all_goals exact ⟨none, _, _, by decide, rfl, tAg, hH.sub tSub⟩
theorem c71 (G : Glob) (tg : Nat) (s : Option Int) (c o : Int) : CallsA Tryz.prog 71 (List.toArray [errV s c, .iface 131 (.pointer (some ⟨tg, 0, none⟩))]) (GL G) [.pt tg 129 [.int .i64 o]] (fun u H' => u = .bool true ∧ H' = [.pt tg 129 [.int .i64 c]]) := by
  cases s
  · simp only [errV]
    refine callsA_of (args := [_, _]) Tryz.func71 rfl Tryz.ntmps71 (by simp) ?_
    intro w0 hH
    repeat' (first | refine stp ?_ | (refine g_guard ?_; (first | refine r_guardD rfl rfl rfl (fun hg hp => ?_) (fun hg hp => ?_) | refine r_guard rfl rfl rfl (fun hg => ?_) (fun hg => ?_))) | (refine g_load ?_; (first | refine p_loadG hH rfl (gErrT_mem G) rfl rfl rfl ?_ | (refine p_loadSB hH rfl rfl tO ?_) | (refine p_loadRB hH rfl rfl (by omega) tO ?_) | (refine p_loadS hH rfl tW ?_))) | (refine g_call ?_; (first | (refine x_val (EvL.cons (EvK.any rfl) EvL.nil) (xTypeOf _ _) ?_) | (refine x_val (EvL.cons (EvK.any rfl) EvL.nil) (xTypeOf' _ _) ?_) | (refine i_val tE (EvL.cons (EvK.any rfl) EvL.nil) (xAss _) ?_) | (refine i_val tE (EvL.cons (EvK.any rfl) EvL.nil) (xAss' _) ?_) | (refine i_val tE EvL.nil (xKind131 _) ?_) | (refine i_val tE EvL.nil (xKind129 _) ?_) | (refine i_val tE EvL.nil (xElem _) ?_) | (refine i_val tE (EvL.cons (EvK.any rfl) EvL.nil) (xImpl _) ?_) | (refine x_val (EvL.cons (EvK.any rfl) EvL.nil) (x91 _ _) ?_) | (refine x_val (EvL.cons (EvK.any rfl) EvL.nil) (x122 _ _ _ (cell_pt hH tSel rfl)) ?_) | (refine x_val (EvL.cons (EvK.any rfl) EvL.nil) (x92 _ _ _ (cell_pt hH tSel rfl)) ?_) | (refine x_alloc (vf := fun N => .agg #[.pointer (some ⟨9, 129, none⟩), .pointer (some ⟨N, 0, none⟩), .int .u64 153]) (cs := [.int .i64 c]) (EvL.cons (EvK.any rfl) EvL.nil) (x90b _) hH (fun b w hb hH => ?_)) | (refine x_alloc (vf := fun N => .agg #[.pointer (some ⟨9, 131, none⟩), .pointer (some ⟨N, 0, none⟩), .int .u64 150]) (cs := [.pointer (some ⟨tg, 0, none⟩)]) (EvL.cons (EvK.any rfl) EvL.nil) (x90a _) hH (fun b w hb hH => ?_)) | (refine x_val (EvL.cons (EvK.any rfl) (EvL.cons (EvK.any rfl) EvL.nil)) (x123 _ _ _ _ _ (cell_pt hH tSel rfl) (cell_pt hH tSel rfl) (frozen_pt hH tSel _)) ?_; replace hH := hH.set (b := tg) (i := 0) tSel (.int .i64 c)) | (refine i_call tE EvL.nil (xUn _ _) hH (c230 _ _) tTk ReadsAll.nil (fun v H1 w hT hH => ?_); obtain ⟨rfl, rfl⟩ := hT; simp only [List.nil_append] at hH) | (refine k_call (g := 93) Tryz.func93 rfl rfl hH (EvL.cons (EvK.any rfl) (EvL.cons (EvK.any rfl) (EvL.cons (EvK.any rfl) (EvL.cons (EvK.any rfl) EvL.nil)))) (c93 _ _ none _ _) tTk ReadsAll.nil (fun v H1 w hT hH => ?_); obtain ⟨rfl, rfl⟩ := hT; simp only [List.nil_append, List.cons_append] at hH) | (refine p_appendL hH rfl rfl (Reads1.own (v := .nilIface) (Sel.mem tSel)) rfl rfl rfl tO rfl (fun vb vc w hH => ?_)))) | refine n_buildSlice1 hH tE rfl rfl rfl rfl tN (fun g w hg hH => ?_) | (refine r_toInt Tryz.underlying183 Tryz.underlying3 rfl (wrap_small (by omega)) ?_) | (refine p_toTextS hH rfl rfl tO rfl ?_) | refine p_assert tE (xTA _) ?_ | refine p_assert tE (xTB _) ?_ | (refine g_store ?_; (first | refine n_store hH rfl tE rfl rfl tN (fun w hH => ?_) | refine n_storeA hH rfl rfl rfl rfl rfl tN (fun w hH => ?_))) | refine n_alloc hH tW (fun g w hg hH => ?_) | (refine g_box ?_; (first | refine p_boxA hH rfl (fun g w hg hH => ?_) | refine p_boxI hH rfl (fun g w hg hH => ?_) | refine p_boxL hH rfl (fun g w hg hH => ?_))) | (refine g_cond ?_; (first | refine c_condD rfl (fun hc hp => ?_) (fun hc hp => ?_) | refine c_cond rfl (fun hc => ?_) (fun hc => ?_))) | refine d_start (P := Tryz.prog) hH (fun hH => ?_) | (refine g_any ?_; (first | (apply d_done; exact rfl; kernel_rfl) | (apply d_next; exact rfl; exact rfl; exact rfl; kernel_rfl; (first | (simp only [falses, setB]; exact rfl) | exact rfl); exact hH.sub tSub; (intro w hH; (repeat (first | refine stpO ?_ | (refine g_load ?_; (first | (refine p_loadS hH rfl tW ?_))))); exact r_nil one_end)) | (apply d_split; exact rfl; exact rfl; exact rfl; exact rfl; exact rfl; intro hg; rotate_left; intro hg; rotate_right) | (apply d_all1; exact rfl; kernel_rfl; exact rfl; exact rfl) | (apply d_all2; exact rfl; kernel_rfl; exact rfl; exact rfl; exact rfl; exact rfl) | (apply d_all3; exact rfl; kernel_rfl; exact rfl; exact rfl; exact rfl; exact rfl; exact rfl; exact rfl))) | refine then_end (hH.sub tSub) ?_)
    all_goals refine e_end (res1 rfl tW) hH ⟨?_, rfl⟩ tTk
    all_goals rfl
  · simp only [errV]
    refine callsA_of (args := [_, _]) Tryz.func71 rfl Tryz.ntmps71 (by simp) ?_
    intro w0 hH
    repeat' (first | refine stp ?_ | (refine g_guard ?_; (first | refine r_guardD rfl rfl rfl (fun hg hp => ?_) (fun hg hp => ?_) | refine r_guard rfl rfl rfl (fun hg => ?_) (fun hg => ?_))) | (refine g_load ?_; (first | refine p_loadG hH rfl (gErrT_mem G) rfl rfl rfl ?_ | (refine p_loadSB hH rfl rfl tO ?_) | (refine p_loadRB hH rfl rfl (by omega) tO ?_) | (refine p_loadS hH rfl tW ?_))) | (refine g_call ?_; (first | (refine x_val (EvL.cons (EvK.any rfl) EvL.nil) (xTypeOf _ _) ?_) | (refine x_val (EvL.cons (EvK.any rfl) EvL.nil) (xTypeOf' _ _) ?_) | (refine i_val tE (EvL.cons (EvK.any rfl) EvL.nil) (xAss _) ?_) | (refine i_val tE (EvL.cons (EvK.any rfl) EvL.nil) (xAss' _) ?_) | (refine i_val tE EvL.nil (xKind131 _) ?_) | (refine i_val tE EvL.nil (xKind129 _) ?_) | (refine i_val tE EvL.nil (xElem _) ?_) | (refine i_val tE (EvL.cons (EvK.any rfl) EvL.nil) (xImpl _) ?_) | (refine x_val (EvL.cons (EvK.any rfl) EvL.nil) (x91 _ _) ?_) | (refine x_val (EvL.cons (EvK.any rfl) EvL.nil) (x122 _ _ _ (cell_pt hH tSel rfl)) ?_) | (refine x_val (EvL.cons (EvK.any rfl) EvL.nil) (x92 _ _ _ (cell_pt hH tSel rfl)) ?_) | (refine x_alloc (vf := fun N => .agg #[.pointer (some ⟨9, 129, none⟩), .pointer (some ⟨N, 0, none⟩), .int .u64 153]) (cs := [.int .i64 c]) (EvL.cons (EvK.any rfl) EvL.nil) (x90b _) hH (fun b w hb hH => ?_)) | (refine x_alloc (vf := fun N => .agg #[.pointer (some ⟨9, 131, none⟩), .pointer (some ⟨N, 0, none⟩), .int .u64 150]) (cs := [.pointer (some ⟨tg, 0, none⟩)]) (EvL.cons (EvK.any rfl) EvL.nil) (x90a _) hH (fun b w hb hH => ?_)) | (refine x_val (EvL.cons (EvK.any rfl) (EvL.cons (EvK.any rfl) EvL.nil)) (x123 _ _ _ _ _ (cell_pt hH tSel rfl) (cell_pt hH tSel rfl) (frozen_pt hH tSel _)) ?_; replace hH := hH.set (b := tg) (i := 0) tSel (.int .i64 c)) | (refine i_call tE EvL.nil (xUn _ _) hH (c230 _ _) tTk ReadsAll.nil (fun v H1 w hT hH => ?_); obtain ⟨rfl, rfl⟩ := hT; simp only [List.nil_append] at hH) | (refine k_call (g := 93) Tryz.func93 rfl rfl hH (EvL.cons (EvK.any rfl) (EvL.cons (EvK.any rfl) (EvL.cons (EvK.any rfl) (EvL.cons (EvK.any rfl) EvL.nil)))) (c93 _ _ (some _) _ _) tTk ReadsAll.nil (fun v H1 w hT hH => ?_); obtain ⟨rfl, rfl⟩ := hT; simp only [List.nil_append, List.cons_append] at hH) | (refine p_appendL hH rfl rfl (Reads1.own (v := .nilIface) (Sel.mem tSel)) rfl rfl rfl tO rfl (fun vb vc w hH => ?_)))) | refine n_buildSlice1 hH tE rfl rfl rfl rfl tN (fun g w hg hH => ?_) | (refine r_toInt Tryz.underlying183 Tryz.underlying3 rfl (wrap_small (by omega)) ?_) | (refine p_toTextS hH rfl rfl tO rfl ?_) | refine p_assert tE (xTA _) ?_ | refine p_assert tE (xTB _) ?_ | (refine g_store ?_; (first | refine n_store hH rfl tE rfl rfl tN (fun w hH => ?_) | refine n_storeA hH rfl rfl rfl rfl rfl tN (fun w hH => ?_))) | refine n_alloc hH tW (fun g w hg hH => ?_) | (refine g_box ?_; (first | refine p_boxA hH rfl (fun g w hg hH => ?_) | refine p_boxI hH rfl (fun g w hg hH => ?_) | refine p_boxL hH rfl (fun g w hg hH => ?_))) | (refine g_cond ?_; (first | refine c_condD rfl (fun hc hp => ?_) (fun hc hp => ?_) | refine c_cond rfl (fun hc => ?_) (fun hc => ?_))) | refine d_start (P := Tryz.prog) hH (fun hH => ?_) | (refine g_any ?_; (first | (apply d_done; exact rfl; kernel_rfl) | (apply d_next; exact rfl; exact rfl; exact rfl; kernel_rfl; (first | (simp only [falses, setB]; exact rfl) | exact rfl); exact hH.sub tSub; (intro w hH; (repeat (first | refine stpO ?_ | (refine g_load ?_; (first | (refine p_loadS hH rfl tW ?_))))); exact r_nil one_end)) | (apply d_split; exact rfl; exact rfl; exact rfl; exact rfl; exact rfl; intro hg; rotate_left; intro hg; rotate_right) | (apply d_all1; exact rfl; kernel_rfl; exact rfl; exact rfl) | (apply d_all2; exact rfl; kernel_rfl; exact rfl; exact rfl; exact rfl; exact rfl) | (apply d_all3; exact rfl; kernel_rfl; exact rfl; exact rfl; exact rfl; exact rfl; exact rfl; exact rfl))) | refine then_end (hH.sub tSub) ?_)
    all_goals refine e_end (res1 rfl tW) hH ⟨?_, rfl⟩ tTk
    all_goals rfl
theorem c71n (g : Nat) (o : Int) : CallsA Tryz.prog 71 (List.toArray [.nilIface, .iface 131 (.pointer (some ⟨g, 0, none⟩))]) [] [.pt g 129 [.int .i64 o]] (fun u H' => u = .bool false ∧ H' = [.pt g 129 [.int .i64 o]]) := by
  refine callsA_of (args := [_, _]) Tryz.func71 rfl Tryz.ntmps71 (by simp) ?_
  intro w0 hH
  repeat' (first | refine stp ?_ | (refine g_guard ?_; (first | refine r_guardD rfl rfl rfl (fun hg hp => ?_) (fun hg hp => ?_) | refine r_guard rfl rfl rfl (fun hg => ?_) (fun hg => ?_))) | (refine g_load ?_; (first | refine p_loadG hH rfl (gErrT_mem G) rfl rfl rfl ?_ | (refine p_loadSB hH rfl rfl tO ?_) | (refine p_loadRB hH rfl rfl (by omega) tO ?_) | (refine p_loadS hH rfl tW ?_))) | (refine g_call ?_; (first | (refine p_appendL hH rfl rfl (Reads1.own (v := .nilIface) (Sel.mem tSel)) rfl rfl rfl tO rfl (fun vb vc w hH => ?_)))) | refine n_buildSlice1 hH tE rfl rfl rfl rfl tN (fun g w hg hH => ?_) | (refine r_toInt Tryz.underlying183 Tryz.underlying3 rfl (wrap_small (by omega)) ?_) | (refine p_toTextS hH rfl rfl tO rfl ?_) | refine p_assert tE (xTA _) ?_ | refine p_assert tE (xTB _) ?_ | (refine g_store ?_; (first | refine n_store hH rfl tE rfl rfl tN (fun w hH => ?_) | refine n_storeA hH rfl rfl rfl rfl rfl tN (fun w hH => ?_))) | refine n_alloc hH tW (fun g w hg hH => ?_) | (refine g_box ?_; (first | refine p_boxA hH rfl (fun g w hg hH => ?_) | refine p_boxI hH rfl (fun g w hg hH => ?_) | refine p_boxL hH rfl (fun g w hg hH => ?_))) | (refine g_cond ?_; (first | refine c_condD rfl (fun hc hp => ?_) (fun hc hp => ?_) | refine c_cond rfl (fun hc => ?_) (fun hc => ?_))) | refine d_start (P := Tryz.prog) hH (fun hH => ?_) | (refine g_any ?_; (first | (apply d_done; exact rfl; kernel_rfl) | (apply d_next; exact rfl; exact rfl; exact rfl; kernel_rfl; (first | (simp only [falses, setB]; exact rfl) | exact rfl); exact hH.sub tSub; (intro w hH; (repeat (first | refine stpO ?_ | (refine g_load ?_; (first | (refine p_loadS hH rfl tW ?_))))); exact r_nil one_end)) | (apply d_split; exact rfl; exact rfl; exact rfl; exact rfl; exact rfl; intro hg; rotate_left; intro hg; rotate_right) | (apply d_all1; exact rfl; kernel_rfl; exact rfl; exact rfl) | (apply d_all2; exact rfl; kernel_rfl; exact rfl; exact rfl; exact rfl; exact rfl) | (apply d_all3; exact rfl; kernel_rfl; exact rfl; exact rfl; exact rfl; exact rfl; exact rfl; exact rfl))) | refine then_end (hH.sub tSub) ?_)
  all_goals refine e_end (res1 rfl tW) hH ⟨?_, rfl⟩ tTk
  all_goals rfl
theorem c53 (G : Glob) (s : Option Int) (c : Int) : CallsA Tryz.prog 53 (List.toArray [errV s c]) (GL G) [] (fun u H' => u = .int .i64 c ∧ H' = []) := by
  refine callsA_of (args := [_]) Tryz.func53 rfl Tryz.ntmps53 (by simp) ?_
  intro w0 hH
  repeat' (first | refine stp ?_ | (refine g_guard ?_; (first | refine r_guardD rfl rfl rfl (fun hg hp => ?_) (fun hg hp => ?_) | refine r_guard rfl rfl rfl (fun hg => ?_) (fun hg => ?_))) | (refine g_load ?_; (first | refine p_loadG hH rfl (gErrT_mem G) rfl rfl rfl ?_ | (refine p_loadSB hH rfl rfl tO ?_) | (refine p_loadRB hH rfl rfl (by omega) tO ?_) | (refine p_loadS hH rfl tW ?_))) | (refine g_call ?_; (first | (refine k_call (g := 71) Tryz.func71 rfl rfl hH (EvL.cons (EvK.any rfl) (EvL.cons (EvK.any rfl) EvL.nil)) (c71 G _ _ _ _) tTk tRd (fun v H1 w hT hH => ?_); obtain ⟨rfl, rfl⟩ := hT; simp only [List.nil_append, List.cons_append] at hH) | (refine p_appendL hH rfl rfl (Reads1.own (v := .nilIface) (Sel.mem tSel)) rfl rfl rfl tO rfl (fun vb vc w hH => ?_)))) | refine n_buildSlice1 hH tE rfl rfl rfl rfl tN (fun g w hg hH => ?_) | (refine r_toInt Tryz.underlying183 Tryz.underlying3 rfl (wrap_small (by omega)) ?_) | (refine p_toTextS hH rfl rfl tO rfl ?_) | refine p_assert tE (xTA _) ?_ | refine p_assert tE (xTB _) ?_ | (refine g_store ?_; (first | refine n_store hH rfl tE rfl rfl tN (fun w hH => ?_) | refine n_storeA hH rfl rfl rfl rfl rfl tN (fun w hH => ?_))) | refine n_alloc hH tW (fun g w hg hH => ?_) | (refine g_box ?_; (first | refine p_boxA hH rfl (fun g w hg hH => ?_) | refine p_boxI hH rfl (fun g w hg hH => ?_) | refine p_boxL hH rfl (fun g w hg hH => ?_))) | (refine g_cond ?_; (first | refine c_condD rfl (fun hc hp => ?_) (fun hc hp => ?_) | refine c_cond rfl (fun hc => ?_) (fun hc => ?_))) | refine d_start (P := Tryz.prog) hH (fun hH => ?_) | (refine g_any ?_; (first | (apply d_done; exact rfl; kernel_rfl) | (apply d_next; exact rfl; exact rfl; exact rfl; kernel_rfl; (first | (simp only [falses, setB]; exact rfl) | exact rfl); exact hH.sub tSub; (intro w hH; (repeat (first | refine stpO ?_ | (refine g_load ?_; (first | (refine p_loadS hH rfl tW ?_))))); exact r_nil one_end)) | (apply d_split; exact rfl; exact rfl; exact rfl; exact rfl; exact rfl; intro hg; rotate_left; intro hg; rotate_right) | (apply d_all1; exact rfl; kernel_rfl; exact rfl; exact rfl) | (apply d_all2; exact rfl; kernel_rfl; exact rfl; exact rfl; exact rfl; exact rfl) | (apply d_all3; exact rfl; kernel_rfl; exact rfl; exact rfl; exact rfl; exact rfl; exact rfl; exact rfl))) | refine then_end (hH.sub tSub) ?_)
  all_goals refine e_end (res1 rfl tW) hH ⟨?_, rfl⟩ tTk
  all_goals rfl
theorem c53n : CallsA Tryz.prog 53 (List.toArray [.nilIface]) [] [] (fun u H' => u = .int .i64 0 ∧ H' = []) := by
  refine callsA_of (args := [_]) Tryz.func53 rfl Tryz.ntmps53 (by simp) ?_
  intro w0 hH
  repeat' (first | refine stp ?_ | (refine g_guard ?_; (first | refine r_guardD rfl rfl rfl (fun hg hp => ?_) (fun hg hp => ?_) | refine r_guard rfl rfl rfl (fun hg => ?_) (fun hg => ?_))) | (refine g_load ?_; (first | refine p_loadG hH rfl (gErrT_mem G) rfl rfl rfl ?_ | (refine p_loadSB hH rfl rfl tO ?_) | (refine p_loadRB hH rfl rfl (by omega) tO ?_) | (refine p_loadS hH rfl tW ?_))) | (refine g_call ?_; (first | (refine k_call (g := 71) Tryz.func71 rfl rfl hH (EvL.cons (EvK.any rfl) (EvL.cons (EvK.any rfl) EvL.nil)) (c71n _ _) tTk ReadsAll.nil (fun v H1 w hT hH => ?_); obtain ⟨rfl, rfl⟩ := hT; simp only [List.nil_append, List.cons_append] at hH) | (refine p_appendL hH rfl rfl (Reads1.own (v := .nilIface) (Sel.mem tSel)) rfl rfl rfl tO rfl (fun vb vc w hH => ?_)))) | refine n_buildSlice1 hH tE rfl rfl rfl rfl tN (fun g w hg hH => ?_) | (refine r_toInt Tryz.underlying183 Tryz.underlying3 rfl (wrap_small (by omega)) ?_) | (refine p_toTextS hH rfl rfl tO rfl ?_) | refine p_assert tE (xTA _) ?_ | refine p_assert tE (xTB _) ?_ | (refine g_store ?_; (first | refine n_store hH rfl tE rfl rfl tN (fun w hH => ?_) | refine n_storeA hH rfl rfl rfl rfl rfl tN (fun w hH => ?_))) | refine n_alloc hH tW (fun g w hg hH => ?_) | (refine g_box ?_; (first | refine p_boxA hH rfl (fun g w hg hH => ?_) | refine p_boxI hH rfl (fun g w hg hH => ?_) | refine p_boxL hH rfl (fun g w hg hH => ?_))) | (refine g_cond ?_; (first | refine c_condD rfl (fun hc hp => ?_) (fun hc hp => ?_) | refine c_cond rfl (fun hc => ?_) (fun hc => ?_))) | refine d_start (P := Tryz.prog) hH (fun hH => ?_) | (refine g_any ?_; (first | (apply d_done; exact rfl; kernel_rfl) | (apply d_next; exact rfl; exact rfl; exact rfl; kernel_rfl; (first | (simp only [falses, setB]; exact rfl) | exact rfl); exact hH.sub tSub; (intro w hH; (repeat (first | refine stpO ?_ | (refine g_load ?_; (first | (refine p_loadS hH rfl tW ?_))))); exact r_nil one_end)) | (apply d_split; exact rfl; exact rfl; exact rfl; exact rfl; exact rfl; intro hg; rotate_left; intro hg; rotate_right) | (apply d_all1; exact rfl; kernel_rfl; exact rfl; exact rfl) | (apply d_all2; exact rfl; kernel_rfl; exact rfl; exact rfl; exact rfl; exact rfl) | (apply d_all3; exact rfl; kernel_rfl; exact rfl; exact rfl; exact rfl; exact rfl; exact rfl; exact rfl))) | refine then_end (hH.sub tSub) ?_)
  all_goals refine e_end (res1 rfl tW) hH ⟨?_, rfl⟩ tTk
  all_goals rfl

end Go.Proofs.YtiofekhdicfmoaaGreatDoor
