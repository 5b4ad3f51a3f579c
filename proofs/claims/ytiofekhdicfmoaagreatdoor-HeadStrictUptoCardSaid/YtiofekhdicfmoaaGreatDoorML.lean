import Derived.Test.YtiofekhdicfmoaaGreatDoorMK
import Derived.KernelRfl
set_option linter.all false
namespace Go.Proofs.YtiofekhdicfmoaaGreatDoor
open Go Go.Hr
attribute [local irreducible] Go.wpList Go.Code.wp Go.Calls Go.Hr.CallsA Go.wpAnyH Go.callFunc Go.callMethod Go.Instr.typeAssert Go.Sem.run
set_option maxHeartbeats 4000000
set_option linter.all false

set_option maxRecDepth 8000
theorem itoa3 (s : Int) (h1 : 100 ≤ s) (h2 : s ≤ 599) : Lib.itoa s = Hp.dig3 s.toNat := by
  obtain ⟨u, rfl⟩ : ∃ u : Nat, s = (u : Int) := ⟨s.toNat, by omega⟩
  unfold Lib.itoa Hp.dig3
  rw [if_neg (by omega), Int.toNat_natCast, Lib.decDigits, dif_neg (by omega), Lib.decDigits, dif_neg (by omega), Lib.decDigits, dif_pos (by omega), Nat.div_div_eq_div_mul]
  rfl
theorem textI_good (h : Hp.HeadP) (g : Hp.Good h) : textI h = Hp.textT h := by
  have hv : verI h = Hp.verT h.minor := by
    unfold verI Hp.verT
    rcases g.minor with e | e <;> rw [e]
    · rw [show Lib.itoa 0 = [48] by kernel_rfl]; rfl
    · rw [show Lib.itoa 1 = [49] by kernel_rfl]; rfl
  have hf := g.first
  unfold textI lineI Hp.textT Hp.firstT Hp.crlf
  rw [hv]
  cases hr : h.request with
  | true => simp
  | false =>
    rw [hr] at hf
    simp only [Bool.false_eq_true, if_false] at hf ⊢
    rw [itoa3 _ hf.2.2.1 hf.2.2.2.1]
def allF (fs : List Hp.FieldP) : List UInt8 := fs.flatMap fun f => f.name ++ f.value
theorem allF_take (fs : List Hp.FieldP) (i : Nat) (hi : i < fs.length) : allF (fs.take (i + 1)) = allF (fs.take i) ++ ((fs.getD i default).name ++ (fs.getD i default).value) := by
  unfold allF
  rw [List.take_succ_eq_append_getElem hi, List.flatMap_append]
  simp only [List.getD, List.getElem?_eq_getElem hi, Option.getD_some, List.flatMap_cons, List.flatMap_nil, List.append_nil]
theorem allF_le (fs : List Hp.FieldP) : (allF fs).length ≤ (Hp.fieldsT fs).length := by
  induction fs with
  | nil => simp [allF]
  | cons f r ih =>
    simp only [allF, Hp.fieldsT, List.flatMap_cons, List.length_append, Hp.fieldT, Hp.crlf, List.length_cons, List.length_nil] at ih ⊢
    omega
theorem allF_takeLe (fs : List Hp.FieldP) (i : Nat) : (allF (fs.take i)).length ≤ (allF fs).length := by
  have h := congrArg (fun l => (allF l).length) (List.take_append_drop i fs)
  simp only [allF, List.flatMap_append, List.length_append] at h ⊢
  omega
def longF (f : Hp.FieldP) : Bool := decide ((8190 : Int) < (f.name.length : Int) + (f.value.length : Int))
theorem any_take (p : Hp.FieldP → Bool) (fs : List Hp.FieldP) (i : Nat) (hi : i < fs.length) : (fs.take (i + 1)).any p = ((fs.take i).any p || p (fs.getD i default)) := by
  rw [List.take_succ_eq_append_getElem hi, List.any_append]
  simp [List.getD, List.getElem?_eq_getElem hi]
theorem getD_mem {α : Type} (l : List α) (i : Nat) (d : α) (hi : i < l.length) : l.getD i d ∈ l := by
  simp [List.getD, List.getElem?_eq_getElem hi]
theorem print_ok (text : Hp.HeadP → List UInt8) (h : Hp.HeadP) (hz : (Hp.printP text h).2 = 0) : (Hp.printP text h).1 = text h := by
  unfold Hp.printP at hz ⊢
  split
  · rename_i hh; rw [if_pos hh] at hz; simp at hz
  · rename_i hh
    rw [if_neg hh] at hz
    split
    · rfl
    · rename_i h2; rw [if_neg h2] at hz; simp at hz
theorem c4 (G : Glob) (r : Bool) (A : Option Addr) (bc : Nat) (b : List UInt8) (hb : b.length ≤ 274877906944) :
    CallsA Tryz.prog 4 (List.toArray [.bool r, .slice A b.length bc]) (⟨A, 1, b.length, bytesV b, none⟩ :: GL G) [] (fun v H' => v = .bool true ∧ H' = []) := by
  have he0 := parse_err r b
  have h100 := parse_few r b
  have hgood := fun h n => Hp.parse_good (r := r) (b := b) (h := h) (n := n)
  have hcut := fun h n => Hp.parse_cut (request := r) (b := b) (h := h) (n := n)
  have hstr := fun h n => Hp.strict (r := r) (b := b) (h := h) (n := n) (text := textI) textI_good
  have h18 := c18 G r A bc b (by omega)
  have hbad := fun (h : Hp.HeadP) n e => show Hp.parseP r b = (h, n, e) → e ≠ 0 → h = {} from fun hp he => by
    unfold Hp.parseP at hp
    dsimp only at hp
    split at hp
    · simp only [Prod.mk.injEq] at hp; exact hp.1.symm
    · split at hp
      · simp only [Prod.mk.injEq] at hp; exact absurd hp.2.2.symm he
      · simp only [Prod.mk.injEq] at hp; exact hp.1.symm
  obtain ⟨X, hX⟩ : ∃ X, Hp.parseP r b = X := ⟨_, rfl⟩
  obtain ⟨h, n, e⟩ := X
  rw [hX] at he0 h100
  dsimp only at he0 h100
  have h18a : CallsA Tryz.prog 18 (List.toArray [.bool r, .slice A b.length bc]) (⟨A, 1, b.length, bytesV b, none⟩ :: GL G) [] (fun v H' => ∃ fa fc, v = .tuple (List.toArray [headV h (slF h fa fc), .int .i64 (n : Int), .int .i64 (e : Int)]) ∧ H' = [fldsO h (slF h fa fc)]) := by
    rw [hX] at h18
    exact h18
  by_cases hz : e = 0
  · subst hz
    have hg := hgood h n hX
    obtain ⟨hn1, hn2, _, _⟩ := hcut h n hX
    obtain ⟨hs1, hs2⟩ := hstr h n hX
    clear hgood hcut hstr hbad he0 h18
    obtain ⟨gd, hreq, hl1, hl2⟩ := hg
    obtain ⟨cl1, cl2⟩ := Hp.good_clean gd
    have htx := textI_good h gd
    have hlen : (lineI h).length + (Hp.fieldsT h.fields).length + 2 ≤ n + h.fields.length := by
      have e1 : (textI h).length = (lineI h).length + (Hp.fieldsT h.fields).length + 2 := by simp only [textI, List.length_append, List.length_cons, List.length_nil]
      rw [← e1, htx]; exact hl2
    have hmtr : h.method.length + h.target.length + h.reason.length ≤ (lineI h).length := by
      have hf := gd.first
      unfold lineI
      cases hr : h.request with
      | true => rw [hr] at hf; simp only [if_true] at hf ⊢; rw [hf.2.2.2]; simp only [List.length_append, List.length_cons, List.length_nil]; omega
      | false => rw [hr] at hf; simp only [Bool.false_eq_true, if_false] at hf ⊢; rw [hf.1, hf.2.1]; simp only [List.length_append, List.length_cons, List.length_nil]; omega
    have hall := allF_le h.fields
    have h15 := fun ga gc => c15 G h ga gc (by rcases gd.minor with e | e <;> rw [e] <;> decide) (by
      have hf := gd.first
      split at hf
      · rw [hf.2.2.1]; decide
      · have := hf.2.2.1; have := hf.2.2.2.1; omega) (by omega) (by rw [htx]; omega)
    have hnn : (n : Int) + (h.fields.length : Int) ≤ 1099511627776 := by omega
    refine callsA_of (args := [_, _]) Tryz.func4 rfl Tryz.ntmps4 (by simp) ?_
    intro w0 hH
    repeat' (first | refine stp ?_ | (refine g_guard ?_; (first | refine r_guardD rfl rfl rfl (fun hg hp => ?_) (fun hg hp => ?_) | refine r_guard rfl rfl rfl (fun hg => ?_) (fun hg => ?_))) | (refine g_load ?_; (first | (refine p_loadRF hH rfl rfl (by omega) tO ?_) | (refine p_loadSF hH rfl rfl tO ?_) | (refine p_loadSB hH rfl rfl tO ?_) | (refine p_loadRB hH rfl rfl (by omega) tO ?_) | (refine p_loadS hH rfl tW ?_))) | (refine g_call ?_; (first | (refine k_call (g := 18) Tryz.func18 rfl rfl hH (EvL.cons (EvK.any rfl) (EvL.cons (EvK.any rfl) EvL.nil)) (h18a) tTk ReadsAll.same (fun v H1 w hT hH => ?_); obtain ⟨xa, xc, rfl, rfl⟩ := hT; simp only [List.nil_append, List.cons_append] at hH) | (refine p_appendL hH rfl rfl (Reads1.own (v := .nilIface) (Sel.mem tSel)) rfl rfl rfl tO rfl (fun vb vc w hH => ?_)))) | refine n_buildSlice1 hH tE rfl rfl rfl rfl tN (fun g w hg hH => ?_) | (refine r_toInt Tryz.underlying183 Tryz.underlying3 rfl (wrap_small (by omega)) ?_) | (refine p_toTextS hH rfl rfl tO rfl ?_) | (refine p_neF rfl rfl ?_) | (refine p_eqF rfl rfl ?_) | (refine g_store ?_; (first | refine n_store hH rfl tE rfl rfl tN (fun w hH => ?_) | refine n_storeA hH rfl rfl rfl rfl rfl tN (fun w hH => ?_))) | refine n_alloc hH tW (fun g w hg hH => ?_) | (refine g_box ?_; (first | refine p_boxA hH rfl (fun g w hg hH => ?_) | refine p_boxI hH rfl (fun g w hg hH => ?_) | refine p_boxL hH rfl (fun g w hg hH => ?_))) | (refine g_cond ?_; (first | refine c_condD rfl (fun hc hp => ?_) (fun hc hp => ?_) | refine c_cond rfl (fun hc => ?_) (fun hc => ?_))) | refine d_start (P := Tryz.prog) hH (fun hH => ?_) | (refine g_any ?_; (first | (apply d_done; exact rfl; kernel_rfl) | (apply d_next; exact rfl; exact rfl; exact rfl; kernel_rfl; (first | (simp only [falses, setB]; exact rfl) | exact rfl); exact hH.sub tSub; (intro w hH; (repeat (first | refine stpO ?_ | (refine g_load ?_; (first | (refine p_loadRF hH rfl rfl (by omega) tO ?_) | (refine p_loadSF hH rfl rfl tO ?_) | (refine p_loadS hH rfl tW ?_))) | (refine p_neF rfl rfl ?_) | (refine p_eqF rfl rfl ?_))); exact r_nil one_end)) | (apply d_split; exact rfl; exact rfl; exact rfl; exact rfl; exact rfl; intro hg; rotate_left; intro hg; rotate_right) | (apply d_all1; exact rfl; kernel_rfl; exact rfl; exact rfl) | (apply d_all2; exact rfl; kernel_rfl; exact rfl; exact rfl; exact rfl; exact rfl) | (apply d_all3; exact rfl; kernel_rfl; exact rfl; exact rfl; exact rfl; exact rfl; exact rfl; exact rfl))) | refine then_end (hH.sub tSub) ?_)
    obtain ⟨g5, rfl⟩ : ∃ x, x = g := ⟨_, rfl⟩
    obtain ⟨M, hM⟩ : ∃ M, h.method ++ h.target ++ h.reason = M := ⟨_, rfl⟩
    have hMl : M.length = h.method.length + h.target.length + h.reason.length := by rw [← hM]; simp only [List.length_append]
    rw [hM]
    obtain ⟨L0, hL0⟩ : ∃ L0, decide ((65536 : Int) < (n : Int) + (h.fields.length : Int)) = L0 := ⟨_, rfl⟩
    rw [hL0]
    refine c_loopS (fun x : Nat × Bool => [(0, .bool r), (5, bAt g5), (6, .int .i64 (n : Int)), (8, .string ⟨(M ++ allF (h.fields.take x.1)).toArray⟩), (9, .bool x.2), (53, slF h xa xc), (54, .int .i64 (h.fields.length : Int)), (55, .int .i64 (x.1 : Int))])
      (fun x w => x.1 ≤ h.fields.length ∧ x.2 = (L0 || (h.fields.take x.1).any longF) ∧ Holds w0 (bl []) w (⟨A, 1, b.length, bytesV b, none⟩ :: GL G) ([.pt g5 24 [.bool h.request, .string ⟨h.method.toArray⟩, .string ⟨h.target.toArray⟩, .int .i64 h.minor, .int .i64 h.status, .string ⟨h.reason.toArray⟩, slF h xa xc], fldsO h (slF h xa xc)])) (fun x => h.fields.length - x.1) (0, L0) (Agree.cons rfl (Agree.cons rfl (Agree.cons rfl (Agree.cons (by simp [allF]; rfl) (Agree.cons rfl (Agree.cons rfl (Agree.cons rfl (Agree.cons rfl Agree.nil)))))))) ⟨by simp, by simp, hH⟩ (fun x f w hI => ?_)
    clear hH
    obtain ⟨i, lg⟩ := x
    obtain ⟨hi, hlg, hH⟩ := hI
    dsimp only at hi hlg hH ⊢
    by_cases hlt : i < h.fields.length
    · have k1 : decide ((i : Int) < (h.fields.length : Int)) = true := by simpa using hlt
      have e1 : ((i : Int)).toNat = i := by omega
      have hmem := getD_mem h.fields (i : Int).toNat default (by omega)
      obtain ⟨c1, c2⟩ := cl2 _ hmem
      have f1 := allF_takeLe h.fields (i + 1)
      rw [allF_take h.fields i hlt] at f1
      simp only [List.length_append] at f1
      rw [← e1] at f1
      have f0 := allF_takeLe h.fields i
      obtain ⟨gf, cf, hbv, _⟩ := hH.form (v := slF h xa xc) (Sel.there (Sel.here _ _)) (by omega)
      injection hbv with q1 q2 q3
      subst q1 q3
      cases lg with
      | true =>
        repeat' (first | refine stp ?_ | (refine g_guard ?_; (first | refine r_guardD rfl rfl rfl (fun hg hp => ?_) (fun hg hp => ?_) | refine r_guard rfl rfl rfl (fun hg => ?_) (fun hg => ?_))) | (refine g_load ?_; (first | (refine p_loadRF hH rfl rfl (by omega) tO ?_) | (refine p_loadSF hH rfl rfl tO ?_) | (refine p_loadSB hH rfl rfl tO ?_) | (refine p_loadRB hH rfl rfl (by omega) tO ?_) | (refine p_loadS hH rfl tW ?_))) | (refine g_call ?_; (first | (refine p_appendL hH rfl rfl (Reads1.own (v := .nilIface) (Sel.mem tSel)) rfl rfl rfl tO rfl (fun vb vc w hH => ?_)))) | refine n_buildSlice1 hH tE rfl rfl rfl rfl tN (fun g w hg hH => ?_) | (refine r_toInt Tryz.underlying183 Tryz.underlying3 rfl (wrap_small (by omega)) ?_) | (refine p_toTextS hH rfl rfl tO rfl ?_) | (refine p_neF rfl rfl ?_) | (refine p_eqF rfl rfl ?_) | (refine g_store ?_; (first | refine n_store hH rfl tE rfl rfl tN (fun w hH => ?_) | refine n_storeA hH rfl rfl rfl rfl rfl tN (fun w hH => ?_))) | refine n_alloc hH tW (fun g w hg hH => ?_) | (refine g_box ?_; (first | refine p_boxA hH rfl (fun g w hg hH => ?_) | refine p_boxI hH rfl (fun g w hg hH => ?_) | refine p_boxL hH rfl (fun g w hg hH => ?_))) | (refine g_cond ?_; (first | refine c_condD rfl (fun hc hp => ?_) (fun hc hp => ?_) | refine c_cond rfl (fun hc => ?_) (fun hc => ?_))) | refine d_start (P := Tryz.prog) hH (fun hH => ?_) | (refine g_any ?_; (first | (apply d_done; exact rfl; kernel_rfl) | (apply d_next; exact rfl; exact rfl; exact rfl; kernel_rfl; (first | (simp only [falses, setB]; exact rfl) | exact rfl); exact hH.sub tSub; (intro w hH; (repeat (first | refine stpO ?_ | (refine g_load ?_; (first | (refine p_loadRF hH rfl rfl (by omega) tO ?_) | (refine p_loadSF hH rfl rfl tO ?_) | (refine p_loadS hH rfl tW ?_))) | (refine p_neF rfl rfl ?_) | (refine p_eqF rfl rfl ?_))); exact r_nil one_end)) | (apply d_split; exact rfl; exact rfl; exact rfl; exact rfl; exact rfl; intro hg; rotate_left; intro hg; rotate_right) | (apply d_all1; exact rfl; kernel_rfl; exact rfl; exact rfl) | (apply d_all2; exact rfl; kernel_rfl; exact rfl; exact rfl; exact rfl; exact rfl) | (apply d_all3; exact rfl; kernel_rfl; exact rfl; exact rfl; exact rfl; exact rfl; exact rfl; exact rfl))) | refine then_end (hH.sub tSub) ?_)
        obtain ⟨g11, rfl⟩ : ∃ x, x = g := ⟨_, rfl⟩
        refine c_loopS (fun j : Nat => [(0, .bool r), (5, bAt g5), (6, .int .i64 (n : Int)), (8, .string ⟨(M ++ allF (h.fields.take i) ++ (h.fields.getD (i : Int).toNat default).name ++ (h.fields.getD (i : Int).toNat default).value).toArray⟩), (9, .bool true), (11, bAt g11), (12, .int .i64 (j : Int)), (53, .slice (some ⟨gf, 0, none⟩) h.fields.length xc), (54, .int .i64 (h.fields.length : Int)), (55, .int .i64 (i : Int))])
          (fun j w => j ≤ (h.fields.getD (i : Int).toNat default).name.length ∧ Holds w0 (bl []) w (⟨A, 1, b.length, bytesV b, none⟩ :: GL G) (.pt g11 37 (fldAt h.fields (i : Int).toNat) :: [.pt g5 24 [.bool h.request, .string ⟨h.method.toArray⟩, .string ⟨h.target.toArray⟩, .int .i64 h.minor, .int .i64 h.status, .string ⟨h.reason.toArray⟩, .slice (some ⟨gf, 0, none⟩) h.fields.length xc], fldsO h (.slice (some ⟨gf, 0, none⟩) h.fields.length xc)])) (fun j => (h.fields.getD (i : Int).toNat default).name.length - j) 0 tAg ⟨by omega, hH.sub tSub⟩ (fun j f w hI => ?_)
        clear hH
        obtain ⟨hj, hH⟩ := hI
        by_cases hjl : j < (h.fields.getD (i : Int).toNat default).name.length
        · have k2 : decide ((j : Int) < ((h.fields.getD (i : Int).toNat default).name.length : Int)) = true := by simpa using hjl
          have hcj := c1 _ (getD_mem (h.fields.getD (i : Int).toNat default).name (j : Int).toNat 0 (by omega))
          have k3 : decide ((((h.fields.getD (i : Int).toNat default).name.getD (j : Int).toNat 0).toNat : Int) ≤ 32) = false := by
            have := hcj.1
            simp only [UInt8.lt_iff_toNat_lt] at this
            simp only [decide_eq_false_iff_not]
            have e32 : (32 : UInt8).toNat = 32 := rfl
            omega
          have k4 : decide ((((h.fields.getD (i : Int).toNat default).name.getD (j : Int).toNat 0).toNat : Int) = 58) = false := by
            have := hcj.2
            simp only [decide_eq_false_iff_not]
            intro hh
            exact this (UInt8.toNat_inj.1 (by have e58 : (58 : UInt8).toNat = 58 := rfl
                                              omega))
          repeat' (first | refine stp ?_ | (refine g_guard ?_; (first | refine r_guardD rfl rfl rfl (fun hg hp => ?_) (fun hg hp => ?_) | refine r_guard rfl rfl rfl (fun hg => ?_) (fun hg => ?_))) | (refine g_load ?_; (first | (refine p_loadRF hH rfl rfl (by omega) tO ?_) | (refine p_loadSF hH rfl rfl tO ?_) | (refine p_loadSB hH rfl rfl tO ?_) | (refine p_loadRB hH rfl rfl (by omega) tO ?_) | (refine p_loadS hH rfl tW ?_))) | (refine g_call ?_; (first | (refine p_appendL hH rfl rfl (Reads1.own (v := .nilIface) (Sel.mem tSel)) rfl rfl rfl tO rfl (fun vb vc w hH => ?_)))) | refine n_buildSlice1 hH tE rfl rfl rfl rfl tN (fun g w hg hH => ?_) | (refine r_toInt Tryz.underlying183 Tryz.underlying3 rfl (wrap_small (by omega)) ?_) | (refine p_toTextS hH rfl rfl tO rfl ?_) | (refine p_neF rfl rfl ?_) | (refine p_eqF rfl rfl ?_) | (refine g_store ?_; (first | refine n_store hH rfl tE rfl rfl tN (fun w hH => ?_) | refine n_storeA hH rfl rfl rfl rfl rfl tN (fun w hH => ?_))) | refine n_alloc hH tW (fun g w hg hH => ?_) | (refine g_box ?_; (first | refine p_boxA hH rfl (fun g w hg hH => ?_) | refine p_boxI hH rfl (fun g w hg hH => ?_) | refine p_boxL hH rfl (fun g w hg hH => ?_))) | (refine g_cond ?_; (first | refine c_condD rfl (fun hc hp => ?_) (fun hc hp => ?_) | refine c_cond rfl (fun hc => ?_) (fun hc => ?_))) | refine d_start (P := Tryz.prog) hH (fun hH => ?_) | (refine g_any ?_; (first | (apply d_done; exact rfl; kernel_rfl) | (apply d_next; exact rfl; exact rfl; exact rfl; kernel_rfl; (first | (simp only [falses, setB]; exact rfl) | exact rfl); exact hH.sub tSub; (intro w hH; (repeat (first | refine stpO ?_ | (refine g_load ?_; (first | (refine p_loadRF hH rfl rfl (by omega) tO ?_) | (refine p_loadSF hH rfl rfl tO ?_) | (refine p_loadS hH rfl tW ?_))) | (refine p_neF rfl rfl ?_) | (refine p_eqF rfl rfl ?_))); exact r_nil one_end)) | (apply d_split; exact rfl; exact rfl; exact rfl; exact rfl; exact rfl; intro hg; rotate_left; intro hg; rotate_right) | (apply d_all1; exact rfl; kernel_rfl; exact rfl; exact rfl) | (apply d_all2; exact rfl; kernel_rfl; exact rfl; exact rfl; exact rfl; exact rfl) | (apply d_all3; exact rfl; kernel_rfl; exact rfl; exact rfl; exact rfl; exact rfl; exact rfl; exact rfl))) | refine then_end (hH.sub tSub) ?_)
          all_goals exact ⟨j + 1, _, _, by omega, rfl, tAg, by omega, hH.sub tSub⟩
        · have k2 : decide ((j : Int) < ((h.fields.getD (i : Int).toNat default).name.length : Int)) = false := by simpa using hjl
          repeat' (first | refine stp ?_ | (refine g_guard ?_; (first | refine r_guardD rfl rfl rfl (fun hg hp => ?_) (fun hg hp => ?_) | refine r_guard rfl rfl rfl (fun hg => ?_) (fun hg => ?_))) | (refine g_load ?_; (first | (refine p_loadRF hH rfl rfl (by omega) tO ?_) | (refine p_loadSF hH rfl rfl tO ?_) | (refine p_loadSB hH rfl rfl tO ?_) | (refine p_loadRB hH rfl rfl (by omega) tO ?_) | (refine p_loadS hH rfl tW ?_))) | (refine g_call ?_; (first | (refine p_appendL hH rfl rfl (Reads1.own (v := .nilIface) (Sel.mem tSel)) rfl rfl rfl tO rfl (fun vb vc w hH => ?_)))) | refine n_buildSlice1 hH tE rfl rfl rfl rfl tN (fun g w hg hH => ?_) | (refine r_toInt Tryz.underlying183 Tryz.underlying3 rfl (wrap_small (by omega)) ?_) | (refine p_toTextS hH rfl rfl tO rfl ?_) | (refine p_neF rfl rfl ?_) | (refine p_eqF rfl rfl ?_) | (refine g_store ?_; (first | refine n_store hH rfl tE rfl rfl tN (fun w hH => ?_) | refine n_storeA hH rfl rfl rfl rfl rfl tN (fun w hH => ?_))) | refine n_alloc hH tW (fun g w hg hH => ?_) | (refine g_box ?_; (first | refine p_boxA hH rfl (fun g w hg hH => ?_) | refine p_boxI hH rfl (fun g w hg hH => ?_) | refine p_boxL hH rfl (fun g w hg hH => ?_))) | (refine g_cond ?_; (first | refine c_condD rfl (fun hc hp => ?_) (fun hc hp => ?_) | refine c_cond rfl (fun hc => ?_) (fun hc => ?_))) | refine d_start (P := Tryz.prog) hH (fun hH => ?_) | (refine g_any ?_; (first | (apply d_done; exact rfl; kernel_rfl) | (apply d_next; exact rfl; exact rfl; exact rfl; kernel_rfl; (first | (simp only [falses, setB]; exact rfl) | exact rfl); exact hH.sub tSub; (intro w hH; (repeat (first | refine stpO ?_ | (refine g_load ?_; (first | (refine p_loadRF hH rfl rfl (by omega) tO ?_) | (refine p_loadSF hH rfl rfl tO ?_) | (refine p_loadS hH rfl tW ?_))) | (refine p_neF rfl rfl ?_) | (refine p_eqF rfl rfl ?_))); exact r_nil one_end)) | (apply d_split; exact rfl; exact rfl; exact rfl; exact rfl; exact rfl; intro hg; rotate_left; intro hg; rotate_right) | (apply d_all1; exact rfl; kernel_rfl; exact rfl; exact rfl) | (apply d_all2; exact rfl; kernel_rfl; exact rfl; exact rfl; exact rfl; exact rfl) | (apply d_all3; exact rfl; kernel_rfl; exact rfl; exact rfl; exact rfl; exact rfl; exact rfl; exact rfl))) | refine then_end (hH.sub tSub) ?_)
          rw [List.append_assoc, List.append_assoc, e1, ← allF_take h.fields i hlt]
          all_goals exact ⟨(i + 1, true), _, _, by simp; omega, rfl, tAg, by simp; omega, by rw [any_take _ _ _ hlt, ← Bool.or_assoc, ← hlg]; rfl, hH.sub tSub⟩
      | false =>
        repeat' (first | refine stp ?_ | (refine g_guard ?_; (first | refine r_guardD rfl rfl rfl (fun hg hp => ?_) (fun hg hp => ?_) | refine r_guard rfl rfl rfl (fun hg => ?_) (fun hg => ?_))) | (refine g_load ?_; (first | (refine p_loadRF hH rfl rfl (by omega) tO ?_) | (refine p_loadSF hH rfl rfl tO ?_) | (refine p_loadSB hH rfl rfl tO ?_) | (refine p_loadRB hH rfl rfl (by omega) tO ?_) | (refine p_loadS hH rfl tW ?_))) | (refine g_call ?_; (first | (refine p_appendL hH rfl rfl (Reads1.own (v := .nilIface) (Sel.mem tSel)) rfl rfl rfl tO rfl (fun vb vc w hH => ?_)))) | refine n_buildSlice1 hH tE rfl rfl rfl rfl tN (fun g w hg hH => ?_) | (refine r_toInt Tryz.underlying183 Tryz.underlying3 rfl (wrap_small (by omega)) ?_) | (refine p_toTextS hH rfl rfl tO rfl ?_) | (refine p_neF rfl rfl ?_) | (refine p_eqF rfl rfl ?_) | (refine g_store ?_; (first | refine n_store hH rfl tE rfl rfl tN (fun w hH => ?_) | refine n_storeA hH rfl rfl rfl rfl rfl tN (fun w hH => ?_))) | refine n_alloc hH tW (fun g w hg hH => ?_) | (refine g_box ?_; (first | refine p_boxA hH rfl (fun g w hg hH => ?_) | refine p_boxI hH rfl (fun g w hg hH => ?_) | refine p_boxL hH rfl (fun g w hg hH => ?_))) | (refine g_cond ?_; (first | refine c_condD rfl (fun hc hp => ?_) (fun hc hp => ?_) | refine c_cond rfl (fun hc => ?_) (fun hc => ?_))) | refine d_start (P := Tryz.prog) hH (fun hH => ?_) | (refine g_any ?_; (first | (apply d_done; exact rfl; kernel_rfl) | (apply d_next; exact rfl; exact rfl; exact rfl; kernel_rfl; (first | (simp only [falses, setB]; exact rfl) | exact rfl); exact hH.sub tSub; (intro w hH; (repeat (first | refine stpO ?_ | (refine g_load ?_; (first | (refine p_loadRF hH rfl rfl (by omega) tO ?_) | (refine p_loadSF hH rfl rfl tO ?_) | (refine p_loadS hH rfl tW ?_))) | (refine p_neF rfl rfl ?_) | (refine p_eqF rfl rfl ?_))); exact r_nil one_end)) | (apply d_split; exact rfl; exact rfl; exact rfl; exact rfl; exact rfl; intro hg; rotate_left; intro hg; rotate_right) | (apply d_all1; exact rfl; kernel_rfl; exact rfl; exact rfl) | (apply d_all2; exact rfl; kernel_rfl; exact rfl; exact rfl; exact rfl; exact rfl) | (apply d_all3; exact rfl; kernel_rfl; exact rfl; exact rfl; exact rfl; exact rfl; exact rfl; exact rfl))) | refine then_end (hH.sub tSub) ?_)
        obtain ⟨g11, rfl⟩ : ∃ x, x = g := ⟨_, rfl⟩
        refine c_loopS (fun j : Nat => [(0, .bool r), (5, bAt g5), (6, .int .i64 (n : Int)), (8, .string ⟨(M ++ allF (h.fields.take i) ++ (h.fields.getD (i : Int).toNat default).name ++ (h.fields.getD (i : Int).toNat default).value).toArray⟩), (9, .bool (decide ((8190 : Int) < ((h.fields.getD (i : Int).toNat default).name.length : Int) + ((h.fields.getD (i : Int).toNat default).value.length : Int)))), (11, bAt g11), (12, .int .i64 (j : Int)), (53, .slice (some ⟨gf, 0, none⟩) h.fields.length xc), (54, .int .i64 (h.fields.length : Int)), (55, .int .i64 (i : Int))])
          (fun j w => j ≤ (h.fields.getD (i : Int).toNat default).name.length ∧ Holds w0 (bl []) w (⟨A, 1, b.length, bytesV b, none⟩ :: GL G) (.pt g11 37 (fldAt h.fields (i : Int).toNat) :: [.pt g5 24 [.bool h.request, .string ⟨h.method.toArray⟩, .string ⟨h.target.toArray⟩, .int .i64 h.minor, .int .i64 h.status, .string ⟨h.reason.toArray⟩, .slice (some ⟨gf, 0, none⟩) h.fields.length xc], fldsO h (.slice (some ⟨gf, 0, none⟩) h.fields.length xc)])) (fun j => (h.fields.getD (i : Int).toNat default).name.length - j) 0 tAg ⟨by omega, hH.sub tSub⟩ (fun j f w hI => ?_)
        clear hH
        obtain ⟨hj, hH⟩ := hI
        by_cases hjl : j < (h.fields.getD (i : Int).toNat default).name.length
        · have k2 : decide ((j : Int) < ((h.fields.getD (i : Int).toNat default).name.length : Int)) = true := by simpa using hjl
          have hcj := c1 _ (getD_mem (h.fields.getD (i : Int).toNat default).name (j : Int).toNat 0 (by omega))
          have k3 : decide ((((h.fields.getD (i : Int).toNat default).name.getD (j : Int).toNat 0).toNat : Int) ≤ 32) = false := by
            have := hcj.1
            simp only [UInt8.lt_iff_toNat_lt] at this
            simp only [decide_eq_false_iff_not]
            have e32 : (32 : UInt8).toNat = 32 := rfl
            omega
          have k4 : decide ((((h.fields.getD (i : Int).toNat default).name.getD (j : Int).toNat 0).toNat : Int) = 58) = false := by
            have := hcj.2
            simp only [decide_eq_false_iff_not]
            intro hh
            exact this (UInt8.toNat_inj.1 (by have e58 : (58 : UInt8).toNat = 58 := rfl
                                              omega))
          repeat' (first | refine stp ?_ | (refine g_guard ?_; (first | refine r_guardD rfl rfl rfl (fun hg hp => ?_) (fun hg hp => ?_) | refine r_guard rfl rfl rfl (fun hg => ?_) (fun hg => ?_))) | (refine g_load ?_; (first | (refine p_loadRF hH rfl rfl (by omega) tO ?_) | (refine p_loadSF hH rfl rfl tO ?_) | (refine p_loadSB hH rfl rfl tO ?_) | (refine p_loadRB hH rfl rfl (by omega) tO ?_) | (refine p_loadS hH rfl tW ?_))) | (refine g_call ?_; (first | (refine p_appendL hH rfl rfl (Reads1.own (v := .nilIface) (Sel.mem tSel)) rfl rfl rfl tO rfl (fun vb vc w hH => ?_)))) | refine n_buildSlice1 hH tE rfl rfl rfl rfl tN (fun g w hg hH => ?_) | (refine r_toInt Tryz.underlying183 Tryz.underlying3 rfl (wrap_small (by omega)) ?_) | (refine p_toTextS hH rfl rfl tO rfl ?_) | (refine p_neF rfl rfl ?_) | (refine p_eqF rfl rfl ?_) | (refine g_store ?_; (first | refine n_store hH rfl tE rfl rfl tN (fun w hH => ?_) | refine n_storeA hH rfl rfl rfl rfl rfl tN (fun w hH => ?_))) | refine n_alloc hH tW (fun g w hg hH => ?_) | (refine g_box ?_; (first | refine p_boxA hH rfl (fun g w hg hH => ?_) | refine p_boxI hH rfl (fun g w hg hH => ?_) | refine p_boxL hH rfl (fun g w hg hH => ?_))) | (refine g_cond ?_; (first | refine c_condD rfl (fun hc hp => ?_) (fun hc hp => ?_) | refine c_cond rfl (fun hc => ?_) (fun hc => ?_))) | refine d_start (P := Tryz.prog) hH (fun hH => ?_) | (refine g_any ?_; (first | (apply d_done; exact rfl; kernel_rfl) | (apply d_next; exact rfl; exact rfl; exact rfl; kernel_rfl; (first | (simp only [falses, setB]; exact rfl) | exact rfl); exact hH.sub tSub; (intro w hH; (repeat (first | refine stpO ?_ | (refine g_load ?_; (first | (refine p_loadRF hH rfl rfl (by omega) tO ?_) | (refine p_loadSF hH rfl rfl tO ?_) | (refine p_loadS hH rfl tW ?_))) | (refine p_neF rfl rfl ?_) | (refine p_eqF rfl rfl ?_))); exact r_nil one_end)) | (apply d_split; exact rfl; exact rfl; exact rfl; exact rfl; exact rfl; intro hg; rotate_left; intro hg; rotate_right) | (apply d_all1; exact rfl; kernel_rfl; exact rfl; exact rfl) | (apply d_all2; exact rfl; kernel_rfl; exact rfl; exact rfl; exact rfl; exact rfl) | (apply d_all3; exact rfl; kernel_rfl; exact rfl; exact rfl; exact rfl; exact rfl; exact rfl; exact rfl))) | refine then_end (hH.sub tSub) ?_)
          all_goals exact ⟨j + 1, _, _, by omega, rfl, tAg, by omega, hH.sub tSub⟩
        · have k2 : decide ((j : Int) < ((h.fields.getD (i : Int).toNat default).name.length : Int)) = false := by simpa using hjl
          repeat' (first | refine stp ?_ | (refine g_guard ?_; (first | refine r_guardD rfl rfl rfl (fun hg hp => ?_) (fun hg hp => ?_) | refine r_guard rfl rfl rfl (fun hg => ?_) (fun hg => ?_))) | (refine g_load ?_; (first | (refine p_loadRF hH rfl rfl (by omega) tO ?_) | (refine p_loadSF hH rfl rfl tO ?_) | (refine p_loadSB hH rfl rfl tO ?_) | (refine p_loadRB hH rfl rfl (by omega) tO ?_) | (refine p_loadS hH rfl tW ?_))) | (refine g_call ?_; (first | (refine p_appendL hH rfl rfl (Reads1.own (v := .nilIface) (Sel.mem tSel)) rfl rfl rfl tO rfl (fun vb vc w hH => ?_)))) | refine n_buildSlice1 hH tE rfl rfl rfl rfl tN (fun g w hg hH => ?_) | (refine r_toInt Tryz.underlying183 Tryz.underlying3 rfl (wrap_small (by omega)) ?_) | (refine p_toTextS hH rfl rfl tO rfl ?_) | (refine p_neF rfl rfl ?_) | (refine p_eqF rfl rfl ?_) | (refine g_store ?_; (first | refine n_store hH rfl tE rfl rfl tN (fun w hH => ?_) | refine n_storeA hH rfl rfl rfl rfl rfl tN (fun w hH => ?_))) | refine n_alloc hH tW (fun g w hg hH => ?_) | (refine g_box ?_; (first | refine p_boxA hH rfl (fun g w hg hH => ?_) | refine p_boxI hH rfl (fun g w hg hH => ?_) | refine p_boxL hH rfl (fun g w hg hH => ?_))) | (refine g_cond ?_; (first | refine c_condD rfl (fun hc hp => ?_) (fun hc hp => ?_) | refine c_cond rfl (fun hc => ?_) (fun hc => ?_))) | refine d_start (P := Tryz.prog) hH (fun hH => ?_) | (refine g_any ?_; (first | (apply d_done; exact rfl; kernel_rfl) | (apply d_next; exact rfl; exact rfl; exact rfl; kernel_rfl; (first | (simp only [falses, setB]; exact rfl) | exact rfl); exact hH.sub tSub; (intro w hH; (repeat (first | refine stpO ?_ | (refine g_load ?_; (first | (refine p_loadRF hH rfl rfl (by omega) tO ?_) | (refine p_loadSF hH rfl rfl tO ?_) | (refine p_loadS hH rfl tW ?_))) | (refine p_neF rfl rfl ?_) | (refine p_eqF rfl rfl ?_))); exact r_nil one_end)) | (apply d_split; exact rfl; exact rfl; exact rfl; exact rfl; exact rfl; intro hg; rotate_left; intro hg; rotate_right) | (apply d_all1; exact rfl; kernel_rfl; exact rfl; exact rfl) | (apply d_all2; exact rfl; kernel_rfl; exact rfl; exact rfl; exact rfl; exact rfl) | (apply d_all3; exact rfl; kernel_rfl; exact rfl; exact rfl; exact rfl; exact rfl; exact rfl; exact rfl))) | refine then_end (hH.sub tSub) ?_)
          rw [List.append_assoc, List.append_assoc, e1, ← allF_take h.fields i hlt]
          all_goals exact ⟨(i + 1, (decide ((8190 : Int) < ((h.fields.getD (i : Int).toNat default).name.length : Int) + ((h.fields.getD (i : Int).toNat default).value.length : Int)))), _, _, by simp; omega, rfl, tAg, by simp; omega, by rw [any_take _ _ _ hlt, ← Bool.or_assoc, ← hlg, ← e1]; rfl, hH.sub tSub⟩
    · have k1 : decide ((i : Int) < (h.fields.length : Int)) = false := by simpa using hlt
      have e : i = h.fields.length := by omega
      subst e
      rw [List.take_length] at hlg ⊢
      have hS : ∀ c ∈ M ++ allF h.fields, c ≠ 13 ∧ c ≠ 10 ∧ c ≠ 0 := by
        intro c hcm
        rcases List.mem_append.1 hcm with hcm | hcm
        · exact cl1 c (hM ▸ hcm)
        · obtain ⟨f, hf, hcf⟩ := List.mem_flatMap.1 hcm
          exact (cl2 f hf).2 c hcf
      have hSl : (M ++ allF h.fields).length ≤ 1099511627776 := by rw [List.length_append]; omega
      generalize M ++ allF h.fields = S at *
      repeat' (first | refine stp ?_ | (refine g_guard ?_; (first | refine r_guardD rfl rfl rfl (fun hg hp => ?_) (fun hg hp => ?_) | refine r_guard rfl rfl rfl (fun hg => ?_) (fun hg => ?_))) | (refine g_load ?_; (first | (refine p_loadRF hH rfl rfl (by omega) tO ?_) | (refine p_loadSF hH rfl rfl tO ?_) | (refine p_loadSB hH rfl rfl tO ?_) | (refine p_loadRB hH rfl rfl (by omega) tO ?_) | (refine p_loadS hH rfl tW ?_))) | (refine g_call ?_; (first | (refine p_appendL hH rfl rfl (Reads1.own (v := .nilIface) (Sel.mem tSel)) rfl rfl rfl tO rfl (fun vb vc w hH => ?_)))) | refine n_buildSlice1 hH tE rfl rfl rfl rfl tN (fun g w hg hH => ?_) | (refine r_toInt Tryz.underlying183 Tryz.underlying3 rfl (wrap_small (by omega)) ?_) | (refine p_toTextS hH rfl rfl tO rfl ?_) | (refine p_neF rfl rfl ?_) | (refine p_eqF rfl rfl ?_) | (refine g_store ?_; (first | refine n_store hH rfl tE rfl rfl tN (fun w hH => ?_) | refine n_storeA hH rfl rfl rfl rfl rfl tN (fun w hH => ?_))) | refine n_alloc hH tW (fun g w hg hH => ?_) | (refine g_box ?_; (first | refine p_boxA hH rfl (fun g w hg hH => ?_) | refine p_boxI hH rfl (fun g w hg hH => ?_) | refine p_boxL hH rfl (fun g w hg hH => ?_))) | (refine g_cond ?_; (first | refine c_condD rfl (fun hc hp => ?_) (fun hc hp => ?_) | refine c_cond rfl (fun hc => ?_) (fun hc => ?_))) | refine d_start (P := Tryz.prog) hH (fun hH => ?_) | (refine g_any ?_; (first | (apply d_done; exact rfl; kernel_rfl) | (apply d_next; exact rfl; exact rfl; exact rfl; kernel_rfl; (first | (simp only [falses, setB]; exact rfl) | exact rfl); exact hH.sub tSub; (intro w hH; (repeat (first | refine stpO ?_ | (refine g_load ?_; (first | (refine p_loadRF hH rfl rfl (by omega) tO ?_) | (refine p_loadSF hH rfl rfl tO ?_) | (refine p_loadS hH rfl tW ?_))) | (refine p_neF rfl rfl ?_) | (refine p_eqF rfl rfl ?_))); exact r_nil one_end)) | (apply d_split; exact rfl; exact rfl; exact rfl; exact rfl; exact rfl; intro hg; rotate_left; intro hg; rotate_right) | (apply d_all1; exact rfl; kernel_rfl; exact rfl; exact rfl) | (apply d_all2; exact rfl; kernel_rfl; exact rfl; exact rfl; exact rfl; exact rfl) | (apply d_all3; exact rfl; kernel_rfl; exact rfl; exact rfl; exact rfl; exact rfl; exact rfl; exact rfl))) | refine then_end (hH.sub tSub) ?_)
      refine c_loopS (fun j : Nat => [(0, .bool r), (5, bAt g5), (8, .string ⟨S.toArray⟩), (9, .bool lg), (13, .int .i64 (j : Int))])
        (fun j w => j ≤ S.length ∧ Holds w0 (bl []) w (⟨A, 1, b.length, bytesV b, none⟩ :: GL G) [.pt g5 24 [.bool h.request, .string ⟨h.method.toArray⟩, .string ⟨h.target.toArray⟩, .int .i64 h.minor, .int .i64 h.status, .string ⟨h.reason.toArray⟩, slF h xa xc], fldsO h (slF h xa xc)]) (fun j => S.length - j) 0 tAg ⟨by omega, hH⟩ (fun j f w hI => ?_)
      clear hH
      obtain ⟨hj, hH⟩ := hI
      by_cases hjl : j < S.length
      · have k2 : decide ((j : Int) < (S.length : Int)) = true := by simpa using hjl
        have hcj := hS _ (getD_mem S (j : Int).toNat 0 (by omega))
        have kk : ∀ q : Nat, q < 256 → S.getD (j : Int).toNat 0 ≠ UInt8.ofNat q → decide (((S.getD (j : Int).toNat 0).toNat : Int) = (q : Int)) = false := fun q hq hne => by
          rw [decide_eq_false_iff_not, u8_eq _ q hq]; exact hne
        have k3 : decide (((S.getD (j : Int).toNat 0).toNat : Int) = 13) = false := kk 13 (by decide) hcj.1
        have k4 : decide (((S.getD (j : Int).toNat 0).toNat : Int) = 10) = false := kk 10 (by decide) hcj.2.1
        have k5 : decide (((S.getD (j : Int).toNat 0).toNat : Int) = 0) = false := kk 0 (by decide) hcj.2.2
        repeat' (first | refine stp ?_ | (refine g_guard ?_; (first | refine r_guardD rfl rfl rfl (fun hg hp => ?_) (fun hg hp => ?_) | refine r_guard rfl rfl rfl (fun hg => ?_) (fun hg => ?_))) | (refine g_load ?_; (first | (refine p_loadRF hH rfl rfl (by omega) tO ?_) | (refine p_loadSF hH rfl rfl tO ?_) | (refine p_loadSB hH rfl rfl tO ?_) | (refine p_loadRB hH rfl rfl (by omega) tO ?_) | (refine p_loadS hH rfl tW ?_))) | (refine g_call ?_; (first | (refine p_appendL hH rfl rfl (Reads1.own (v := .nilIface) (Sel.mem tSel)) rfl rfl rfl tO rfl (fun vb vc w hH => ?_)))) | refine n_buildSlice1 hH tE rfl rfl rfl rfl tN (fun g w hg hH => ?_) | (refine r_toInt Tryz.underlying183 Tryz.underlying3 rfl (wrap_small (by omega)) ?_) | (refine p_toTextS hH rfl rfl tO rfl ?_) | (refine p_neF rfl rfl ?_) | (refine p_eqF rfl rfl ?_) | (refine g_store ?_; (first | refine n_store hH rfl tE rfl rfl tN (fun w hH => ?_) | refine n_storeA hH rfl rfl rfl rfl rfl tN (fun w hH => ?_))) | refine n_alloc hH tW (fun g w hg hH => ?_) | (refine g_box ?_; (first | refine p_boxA hH rfl (fun g w hg hH => ?_) | refine p_boxI hH rfl (fun g w hg hH => ?_) | refine p_boxL hH rfl (fun g w hg hH => ?_))) | (refine g_cond ?_; (first | refine c_condD rfl (fun hc hp => ?_) (fun hc hp => ?_) | refine c_cond rfl (fun hc => ?_) (fun hc => ?_))) | refine d_start (P := Tryz.prog) hH (fun hH => ?_) | (refine g_any ?_; (first | (apply d_done; exact rfl; kernel_rfl) | (apply d_next; exact rfl; exact rfl; exact rfl; kernel_rfl; (first | (simp only [falses, setB]; exact rfl) | exact rfl); exact hH.sub tSub; (intro w hH; (repeat (first | refine stpO ?_ | (refine g_load ?_; (first | (refine p_loadRF hH rfl rfl (by omega) tO ?_) | (refine p_loadSF hH rfl rfl tO ?_) | (refine p_loadS hH rfl tW ?_))) | (refine p_neF rfl rfl ?_) | (refine p_eqF rfl rfl ?_))); exact r_nil one_end)) | (apply d_split; exact rfl; exact rfl; exact rfl; exact rfl; exact rfl; intro hg; rotate_left; intro hg; rotate_right) | (apply d_all1; exact rfl; kernel_rfl; exact rfl; exact rfl) | (apply d_all2; exact rfl; kernel_rfl; exact rfl; exact rfl; exact rfl; exact rfl) | (apply d_all3; exact rfl; kernel_rfl; exact rfl; exact rfl; exact rfl; exact rfl; exact rfl; exact rfl))) | refine then_end (hH.sub tSub) ?_)
        all_goals exact ⟨j + 1, _, _, by omega, rfl, tAg, by omega, hH.sub tSub⟩
      · have k2 : decide ((j : Int) < (S.length : Int)) = false := by simpa using hjl
        have hpo := print_ok textI h
        have hY15 := h15 xa xc
        have htl : (textI h).length ≤ 1099511627776 := by rw [htx]; omega
        obtain ⟨Y, hY⟩ : ∃ Y, Hp.printP textI h = Y := ⟨_, rfl⟩
        rw [hY] at hs1 hs2 hY15 hpo
        obtain ⟨s, f⟩ := Y
        dsimp only at hs1 hs2 hY15 hpo
        by_cases hf : f = 0
        · subst hf
          obtain rfl := hpo rfl
          have h18c : ∀ A3 bc, CallsA Tryz.prog 18 (List.toArray [.bool r, .slice A3 (textI h).length bc]) (⟨A3, 1, (textI h).length, bytesV (textI h), none⟩ :: GL G) [] (fun v H' => ∃ fa fc, v = .tuple (List.toArray [headV h (slF h fa fc), .int .i64 ((textI h).length : Int), .int .i64 (0 : Int)]) ∧ H' = [fldsO h (slF h fa fc)]) := fun A3 bc => by
            have := c18 G r A3 bc (textI h) htl
            rw [hs2 rfl] at this
            exact this
          have h19 : ∀ fa ga fc gc, CallsA Tryz.prog 19 (List.toArray [headV h (slF h fa fc), headV h (slF h ga gc)]) [⟨fa, 2, h.fields.length, fldV h.fields, none⟩, ⟨ga, 2, h.fields.length, fldV h.fields, none⟩] [] (fun v H' => v = .bool true ∧ H' = []) := fun fa ga fc gc =>
            (c19 h h fa ga fc gc (by omega)).post fun v H' hh => ⟨by rw [hh.1]; simp, hh.2⟩
          repeat' (first | refine stp ?_ | (refine g_guard ?_; (first | refine r_guardD rfl rfl rfl (fun hg hp => ?_) (fun hg hp => ?_) | refine r_guard rfl rfl rfl (fun hg => ?_) (fun hg => ?_))) | (refine g_load ?_; (first | (refine p_loadRF hH rfl rfl (by omega) tO ?_) | (refine p_loadSF hH rfl rfl tO ?_) | (refine p_loadSB hH rfl rfl tO ?_) | (refine p_loadRB hH rfl rfl (by omega) tO ?_) | (refine p_loadS hH rfl tW ?_))) | (refine g_call ?_; (first | (refine k_call (g := 15) Tryz.func15 rfl rfl hH (EvL.cons (EvK.any rfl) EvL.nil) (hY15) tTk (ReadsAll.cons (.own (v := .nilIface) (Sel.mem tSel)) (ReadsAll.skip ReadsAll.same)) (fun v H1 w hT hH => ?_); obtain ⟨rfl, rfl⟩ := hT; simp only [List.nil_append, List.cons_append] at hH) | (refine k_call (g := 18) Tryz.func18 rfl rfl hH (EvL.cons (EvK.any rfl) (EvL.cons (EvK.any rfl) EvL.nil)) (h18c _ _) tTk (ReadsAll.cons (Reads1.fz (Sel.mem tSel) (by simp) (fun _ _ h => h)) (ReadsAll.skip ReadsAll.same)) (fun v H1 w hT hH => ?_); obtain ⟨za, zc, rfl, rfl⟩ := hT; simp only [List.nil_append, List.cons_append] at hH) | (refine k_call (g := 19) Tryz.func19 rfl rfl hH (EvL.cons (EvK.any rfl) (EvL.cons (EvK.any rfl) EvL.nil)) (h19 _ _ _ _) tTk (ReadsAll.cons (.own (v := .nilIface) (Sel.mem tSel)) (ReadsAll.cons (.own (v := .nilIface) (Sel.mem tSel)) .nil)) (fun v H1 w hT hH => ?_); obtain ⟨rfl, rfl⟩ := hT; simp only [List.nil_append, List.cons_append] at hH) | (refine k_call (g := 17) Tryz.func17 rfl rfl hH EvL.nil (c17 G) tTk (ReadsAll.skip ReadsAll.same) (fun v H1 w hT hH => ?_); obtain ⟨rfl, rfl⟩ := hT; simp only [List.nil_append, List.cons_append] at hH) | (refine p_appendL hH rfl rfl (Reads1.own (v := .nilIface) (Sel.mem tSel)) rfl rfl rfl tO rfl (fun vb vc w hH => ?_)))) | refine n_buildSlice1 hH tE rfl rfl rfl rfl tN (fun g w hg hH => ?_) | (refine r_toInt Tryz.underlying183 Tryz.underlying3 rfl (wrap_small (by omega)) ?_) | (refine p_toTextS hH rfl rfl tO rfl ?_) | (refine p_neF rfl rfl ?_) | (refine p_eqF rfl rfl ?_) | (refine p_toBytes hH rfl (fun gz cz w hcz hH => ?_)) | (refine g_store ?_; (first | refine n_store hH rfl tE rfl rfl tN (fun w hH => ?_) | refine n_storeA hH rfl rfl rfl rfl rfl tN (fun w hH => ?_))) | refine n_alloc hH tW (fun g w hg hH => ?_) | (refine g_box ?_; (first | refine p_boxA hH rfl (fun g w hg hH => ?_) | refine p_boxI hH rfl (fun g w hg hH => ?_) | refine p_boxL hH rfl (fun g w hg hH => ?_))) | (refine g_cond ?_; (first | refine c_condD rfl (fun hc hp => ?_) (fun hc hp => ?_) | refine c_cond rfl (fun hc => ?_) (fun hc => ?_))) | refine d_start (P := Tryz.prog) hH (fun hH => ?_) | (refine g_any ?_; (first | (apply d_done; exact rfl; kernel_rfl) | (apply d_next; exact rfl; exact rfl; exact rfl; kernel_rfl; (first | (simp only [falses, setB]; exact rfl) | exact rfl); exact hH.sub tSub; (intro w hH; (repeat (first | refine stpO ?_ | (refine g_load ?_; (first | (refine p_loadRF hH rfl rfl (by omega) tO ?_) | (refine p_loadSF hH rfl rfl tO ?_) | (refine p_loadS hH rfl tW ?_))) | (refine p_neF rfl rfl ?_) | (refine p_eqF rfl rfl ?_))); exact r_nil one_end)) | (apply d_split; exact rfl; exact rfl; exact rfl; exact rfl; exact rfl; intro hg; rotate_left; intro hg; rotate_right) | (apply d_all1; exact rfl; kernel_rfl; exact rfl; exact rfl) | (apply d_all2; exact rfl; kernel_rfl; exact rfl; exact rfl; exact rfl; exact rfl) | (apply d_all3; exact rfl; kernel_rfl; exact rfl; exact rfl; exact rfl; exact rfl; exact rfl; exact rfl))) | refine then_end (hH.sub tSub) ?_)
          all_goals refine e_end (res1 rfl tW) hH ⟨?_, rfl⟩ tTk
          all_goals rfl
        · have k6 : decide ((f : Int) ≠ 0) = true := by simp; omega
          have hlt : lg = true := by
            cases hh : lg with
            | true => rfl
            | false =>
              rw [hh] at hlg
              have hlg' := hlg.symm
              rw [Bool.or_eq_false_iff] at hlg'
              have := hs1 (by have := hlg'.1; rw [← hL0] at this; simp only [decide_eq_false_iff_not] at this; omega) (fun q hq hl => by
                have := List.any_eq_false.1 hlg'.2 q hq
                simp only [longF, decide_eq_true_eq] at this
                omega)
              exact absurd (congrArg Prod.snd this.1) hf
          subst hlt
          repeat' (first | refine stp ?_ | (refine g_guard ?_; (first | refine r_guardD rfl rfl rfl (fun hg hp => ?_) (fun hg hp => ?_) | refine r_guard rfl rfl rfl (fun hg => ?_) (fun hg => ?_))) | (refine g_load ?_; (first | (refine p_loadRF hH rfl rfl (by omega) tO ?_) | (refine p_loadSF hH rfl rfl tO ?_) | (refine p_loadSB hH rfl rfl tO ?_) | (refine p_loadRB hH rfl rfl (by omega) tO ?_) | (refine p_loadS hH rfl tW ?_))) | (refine g_call ?_; (first | (refine k_call (g := 15) Tryz.func15 rfl rfl hH (EvL.cons (EvK.any rfl) EvL.nil) (hY15) tTk (ReadsAll.cons (.own (v := .nilIface) (Sel.mem tSel)) (ReadsAll.skip ReadsAll.same)) (fun v H1 w hT hH => ?_); obtain ⟨rfl, rfl⟩ := hT; simp only [List.nil_append, List.cons_append] at hH) | (refine k_call (g := 17) Tryz.func17 rfl rfl hH EvL.nil (c17 G) tTk (ReadsAll.skip ReadsAll.same) (fun v H1 w hT hH => ?_); obtain ⟨rfl, rfl⟩ := hT; simp only [List.nil_append, List.cons_append] at hH) | (refine p_appendL hH rfl rfl (Reads1.own (v := .nilIface) (Sel.mem tSel)) rfl rfl rfl tO rfl (fun vb vc w hH => ?_)))) | refine n_buildSlice1 hH tE rfl rfl rfl rfl tN (fun g w hg hH => ?_) | (refine r_toInt Tryz.underlying183 Tryz.underlying3 rfl (wrap_small (by omega)) ?_) | (refine p_toTextS hH rfl rfl tO rfl ?_) | (refine p_neF rfl rfl ?_) | (refine p_eqF rfl rfl ?_) | (refine g_store ?_; (first | refine n_store hH rfl tE rfl rfl tN (fun w hH => ?_) | refine n_storeA hH rfl rfl rfl rfl rfl tN (fun w hH => ?_))) | refine n_alloc hH tW (fun g w hg hH => ?_) | (refine g_box ?_; (first | refine p_boxA hH rfl (fun g w hg hH => ?_) | refine p_boxI hH rfl (fun g w hg hH => ?_) | refine p_boxL hH rfl (fun g w hg hH => ?_))) | (refine g_cond ?_; (first | refine c_condD rfl (fun hc hp => ?_) (fun hc hp => ?_) | refine c_cond rfl (fun hc => ?_) (fun hc => ?_))) | refine d_start (P := Tryz.prog) hH (fun hH => ?_) | (refine g_any ?_; (first | (apply d_done; exact rfl; kernel_rfl) | (apply d_next; exact rfl; exact rfl; exact rfl; kernel_rfl; (first | (simp only [falses, setB]; exact rfl) | exact rfl); exact hH.sub tSub; (intro w hH; (repeat (first | refine stpO ?_ | (refine g_load ?_; (first | (refine p_loadRF hH rfl rfl (by omega) tO ?_) | (refine p_loadSF hH rfl rfl tO ?_) | (refine p_loadS hH rfl tW ?_))) | (refine p_neF rfl rfl ?_) | (refine p_eqF rfl rfl ?_))); exact r_nil one_end)) | (apply d_split; exact rfl; exact rfl; exact rfl; exact rfl; exact rfl; intro hg; rotate_left; intro hg; rotate_right) | (apply d_all1; exact rfl; kernel_rfl; exact rfl; exact rfl) | (apply d_all2; exact rfl; kernel_rfl; exact rfl; exact rfl; exact rfl; exact rfl) | (apply d_all3; exact rfl; kernel_rfl; exact rfl; exact rfl; exact rfl; exact rfl; exact rfl; exact rfl))) | refine then_end (hH.sub tSub) ?_)
          all_goals refine e_end (res1 rfl tW) hH ⟨?_, rfl⟩ tTk
          all_goals rfl
  · have k0 : decide ((e : Int) ≠ 0) = true := by simp; omega
    have hn0 := he0 hz
    subst hn0
    obtain rfl := hbad h 0 e hX hz
    have h19z : ∀ fa fc, CallsA Tryz.prog 19 (List.toArray [headV {} (slF {} fa fc), headV {} NIL]) [⟨fa, 2, 0, [], none⟩, ⟨none, 2, 0, [], none⟩] [] (fun v H' => v = .bool true ∧ H' = []) := fun fa fc =>
      (c19 {} {} fa none fc 0 (by decide)).post fun v H' hh => ⟨by rw [hh.1]; rfl, hh.2⟩
    refine callsA_of (args := [_, _]) Tryz.func4 rfl Tryz.ntmps4 (by simp) ?_
    intro w0 hH
    repeat' (first | refine stp ?_ | (refine g_guard ?_; (first | refine r_guardD rfl rfl rfl (fun hg hp => ?_) (fun hg hp => ?_) | refine r_guard rfl rfl rfl (fun hg => ?_) (fun hg => ?_))) | (refine g_load ?_; (first | (refine p_loadRF hH rfl rfl (by omega) tO ?_) | (refine p_loadSF hH rfl rfl tO ?_) | (refine p_loadSB hH rfl rfl tO ?_) | (refine p_loadRB hH rfl rfl (by omega) tO ?_) | (refine p_loadS hH rfl tW ?_))) | (refine g_call ?_; (first | (refine k_call (g := 18) Tryz.func18 rfl rfl hH (EvL.cons (EvK.any rfl) (EvL.cons (EvK.any rfl) EvL.nil)) (h18a) tTk ReadsAll.same (fun v H1 w hT hH => ?_); obtain ⟨xa, xc, rfl, rfl⟩ := hT; simp only [List.nil_append, List.cons_append] at hH) | (refine k_call (g := 19) Tryz.func19 rfl rfl hH (EvL.cons (EvK.any rfl) (EvL.cons (EvK.any rfl) EvL.nil)) (h19z _ _) tTk (ReadsAll.cons .none_ (ReadsAll.cons .none_ .nil)) (fun v H1 w hT hH => ?_); obtain ⟨rfl, rfl⟩ := hT; simp only [List.nil_append, List.cons_append] at hH) | (refine k_call (g := 17) Tryz.func17 rfl rfl hH EvL.nil (c17 G) tTk (ReadsAll.skip ReadsAll.same) (fun v H1 w hT hH => ?_); obtain ⟨rfl, rfl⟩ := hT; simp only [List.nil_append, List.cons_append] at hH) | (refine p_appendL hH rfl rfl (Reads1.own (v := .nilIface) (Sel.mem tSel)) rfl rfl rfl tO rfl (fun vb vc w hH => ?_)))) | refine n_buildSlice1 hH tE rfl rfl rfl rfl tN (fun g w hg hH => ?_) | (refine r_toInt Tryz.underlying183 Tryz.underlying3 rfl (wrap_small (by omega)) ?_) | (refine p_toTextS hH rfl rfl tO rfl ?_) | (refine p_neF rfl rfl ?_) | (refine p_eqF rfl rfl ?_) | (refine g_store ?_; (first | refine n_store hH rfl tE rfl rfl tN (fun w hH => ?_) | refine n_storeA hH rfl rfl rfl rfl rfl tN (fun w hH => ?_))) | refine n_alloc hH tW (fun g w hg hH => ?_) | (refine g_box ?_; (first | refine p_boxA hH rfl (fun g w hg hH => ?_) | refine p_boxI hH rfl (fun g w hg hH => ?_) | refine p_boxL hH rfl (fun g w hg hH => ?_))) | (refine g_cond ?_; (first | refine c_condD rfl (fun hc hp => ?_) (fun hc hp => ?_) | refine c_cond rfl (fun hc => ?_) (fun hc => ?_))) | refine d_start (P := Tryz.prog) hH (fun hH => ?_) | (refine g_any ?_; (first | (apply d_done; exact rfl; kernel_rfl) | (apply d_next; exact rfl; exact rfl; exact rfl; kernel_rfl; (first | (simp only [falses, setB]; exact rfl) | exact rfl); exact hH.sub tSub; (intro w hH; (repeat (first | refine stpO ?_ | (refine g_load ?_; (first | (refine p_loadRF hH rfl rfl (by omega) tO ?_) | (refine p_loadSF hH rfl rfl tO ?_) | (refine p_loadS hH rfl tW ?_))) | (refine p_neF rfl rfl ?_) | (refine p_eqF rfl rfl ?_))); exact r_nil one_end)) | (apply d_split; exact rfl; exact rfl; exact rfl; exact rfl; exact rfl; intro hg; rotate_left; intro hg; rotate_right) | (apply d_all1; exact rfl; kernel_rfl; exact rfl; exact rfl) | (apply d_all2; exact rfl; kernel_rfl; exact rfl; exact rfl; exact rfl; exact rfl) | (apply d_all3; exact rfl; kernel_rfl; exact rfl; exact rfl; exact rfl; exact rfl; exact rfl; exact rfl))) | refine then_end (hH.sub tSub) ?_)
    all_goals refine e_end (res1 rfl tW) hH ⟨?_, rfl⟩ tTk
    all_goals rfl

end Go.Proofs.YtiofekhdicfmoaaGreatDoor
