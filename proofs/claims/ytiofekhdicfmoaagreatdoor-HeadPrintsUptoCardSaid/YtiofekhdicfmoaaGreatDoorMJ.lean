import Derived.Test.YtiofekhdicfmoaaGreatDoorCards
import Derived.Test.YtiofekhdicfmoaaGreatDoorTie
import Derived.Test.YtiofekhdicfmoaaGreatDoorMB
import Derived.Test.YtiofekhdicfmoaaGreatDoorMC
import Derived.WalkKit
import Derived.ProofKit
import Derived.OpenShut
import Derived.WideKeyArgs
import Derived.Deep.OwnRows
import Derived.Deep.DeepHandedRow
import Derived.Deep.DeepWitnessRowRef
import Derived.Lib.LaidTab
import Derived.LaidSub
import Derived.Shelf.Vars
import Derived.Lay
import Derived.LaidHandle
import Derived.Stop.Joined
import Derived.ChangeSlices
import Derived.Lib.SmallJoins
set_option linter.all false
/- From a row's premises to what the walks ask: the package's variables; and back: nothing that was there has turned. -/
namespace Go.Proofs.YtiofekhdicfmoaaGreatDoor
open Go Go.Hr Go.ChangeShapes Go.WideShapes Go.ChangeAt Go.RowKit Go.Deep
set_option linter.all false
theorem own : ownKnob Tryz.prog.godebug = none := by kernel_rfl
theorem laidOut : laidOutB Tryz.prog = true := by kernel_rfl
theorem iface_of_trod {P : Program} {W : World} {fuel : Nat} {t : TypeId} {ms : Array (String × TypeId)} {cs : List Value} {name : String} {d : DataW Unit} {p : List MemPlace} (ht : P.underlying t = some (.interface ms))
    (h : DataW.trod (fun _ => ()) P W 0 (fun _ => true) false fuel t cs = some (.iface name d, p)) : ∃ u v, cs = [.iface u v] := by
  cases fuel with
  | zero => simp [DataW.trod] at h
  | succ k =>
    rw [DataW.trod_step] at h
    unfold DataW.trodStep at h
    rw [ht] at h
    split at h <;> simp_all
theorem laid_one {W : World} {n : String} (h : laidMetH Tryz.prog Rows.headNilRow.laid W) {d : DataW Unit} (hf : (Rows.headNilRow.laid.filter fun x => x.1 == n) = [(n, d)]) (hd : d.handleName? = none) : laidMet Tryz.prog [(n, d)] W := by
  have h1 := h.filter (fun x => x.1 == n)
  rw [hf] at h1
  have h2 := (laidMetH_iff.1 h1).1
  simpa [hd] using h2
theorem sent_cell {W : World} {n : String} {g t : Nat} {ms : Array (String × TypeId)} (h : laidMetH Tryz.prog Rows.headNilRow.laid W) {name : String} {d : DataW Unit} (hf : (Rows.headNilRow.laid.filter fun x => x.1 == n) = [(n, .iface name d)]) (hd : (DataW.iface name d).handleName? = none)
    (hg : Tryz.prog.globalNamed n = some g) (hty : (Tryz.prog.globals[g]?).map (·.type) = some t) (ht : Tryz.prog.underlying t = some (.interface ms)) : ∃ u v, W.cell? ⟨g, 0, none⟩ = some (.iface u v) := by
  obtain ⟨ps, ⟨g', t', cs, fuel, p, q, hg', ht', hvar, hdd, _, _⟩, _⟩ := laid_one h hf hd
  obtain rfl := Option.some.inj (hg.symm.trans hg')
  obtain rfl := Option.some.inj (hty.symm.trans ht')
  obtain ⟨u, v, hcs⟩ := iface_of_trod ht hdd
  refine ⟨u, v, ?_⟩
  have := World.var?_cell hg hvar 0
  rw [this]
  have e : cs = #[.iface u v] := by cases cs; simp_all
  rw [e]; rfl
theorem ro_cell {W : World} {g : Nat} {v : Value} (h : W.cell? ⟨g, 0, none⟩ = some v) : Ro.holds W ⟨some ⟨g, 0, none⟩, 1, 1, [v], none⟩ := by
  refine ⟨⟨rfl, nofun⟩, fun _ => ⟨_, rfl, World.block_lt_of_cell? _ _ h, fun j u hu => ?_⟩⟩
  cases j with
  | zero => simp only [List.getElem?_cons_zero, Option.some.injEq] at hu; subst hu; simpa [Addr.add] using h
  | succ j => simp at hu
theorem err_cell {W : World} (h : laidMetH Tryz.prog Rows.headNilRow.laid W) : W.cell? ⟨0, 0, none⟩ = some (.iface 192 (.agg #[.pointer (some ⟨9, 89, none⟩)])) := by
  obtain ⟨name, u, ty, e1, e2, e3, e4, e5⟩ : ∃ name u ty, Rows.laid_errors_errorType.handleName? = some name ∧ (Tryz.prog.cutTypes.find? (·.1 == "internal/reflectlite.rtype")).map (·.2) = some u ∧ ty < Tryz.prog.types.size ∧ Tryz.prog.rowNamed ty name = true ∧
      W.var? Tryz.prog "errors.errorType" = some #[.iface u (.agg #[typeHandle Tryz.prog ty])] :=
    (laidMetH_iff.1 h).2 ("errors.errorType", Rows.laid_errors_errorType) (List.mem_filter.2 ⟨by simp [Rows.headNilRow], rfl⟩)
  have en : name = [101, 114, 114, 111, 114] := (Option.some.inj e1).symm
  subst en
  obtain rfl := Option.some.inj ((show (Tryz.prog.cutTypes.find? (·.1 == "internal/reflectlite.rtype")).map (·.2) = some 192 by kernel_rfl).symm.trans e2)
  have hm : ty ∈ (List.range Tryz.prog.types.size).filter fun t => Tryz.prog.rowNamed t [101, 114, 114, 111, 114] := List.mem_filter.2 ⟨List.mem_range.2 e3, e4⟩
  rw [show ((List.range Tryz.prog.types.size).filter fun t => Tryz.prog.rowNamed t [101, 114, 114, 111, 114]) = [89] by kernel_rfl] at hm
  obtain rfl := List.mem_singleton.1 hm
  rw [show typeHandle Tryz.prog 89 = .pointer (some ⟨9, 89, none⟩) by kernel_rfl] at e5
  simpa using World.var?_cell (show Tryz.prog.globalNamed "errors.errorType" = some 0 by kernel_rfl) e5 0
theorem pow_var {W : World} (h : laidMetH Tryz.prog Rows.headNilRow.laid W) : Lib.TabIs Tryz.prog W "internal/strconv.uint64pow10" .u64 Lib.pow10Tab := by
  have h1 : laidMet Tryz.prog [("internal/strconv.uint64pow10", Lib.tabData .u64 Lib.pow10Tab)] W := laid_one h (by rfl) rfl
  exact Lib.tabIs_of_head (g := 1) (t := 216) (e := 183) (n := 20) (by kernel_rfl) (by kernel_rfl) (by kernel_rfl) (by kernel_rfl) (by kernel_rfl) (by kernel_rfl) h1
theorem max_cell {W : World} (h : W.ShapedOpen Tryz.prog) : ∃ m, W.cell? ⟨2, 0, none⟩ = some (.int .i64 m) :=
  cell_of_shapedOpen_int (t := 3) (zero := #[.int .i64 0]) h (of_decide_eq_true (by kernel_rfl)) (by kernel_rfl) rfl (by kernel_rfl) (by kernel_rfl) (by kernel_rfl)
/-- What a row's premises give a walk. -/
theorem globs {W : World} (h : laidMetH Tryz.prog Rows.headNilRow.laid W) (hs : W.ShapedOpen Tryz.prog) : ∃ G : Glob, ∀ r ∈ GL G, Ro.holds W r := by
  obtain ⟨m, hm⟩ := max_cell hs
  obtain ⟨te, ve, hse⟩ := sent_cell (g := 7) (t := 89) (n := "strconv.ErrSyntax") h rfl rfl (by kernel_rfl) (by kernel_rfl) Tryz.underlying89
  obtain ⟨tr, vr, hsr⟩ := sent_cell (g := 8) (t := 89) (n := "strconv.ErrRange") h rfl rfl (by kernel_rfl) (by kernel_rfl) Tryz.underlying89
  refine ⟨⟨m, te, tr, ve, vr⟩, fun r hr => ?_⟩
  simp only [GL, List.mem_cons, List.not_mem_nil, or_false] at hr
  rcases hr with rfl | rfl | rfl | rfl | rfl
  · exact ro_cell (err_cell h)
  · have hp := pow_var h
    have hg : Tryz.prog.globalNamed "internal/strconv.uint64pow10" = some 1 := by kernel_rfl
    obtain ⟨t, fr, hb⟩ : ∃ t fr, W.heap[1]? = some (.cells (Lib.pow10Tab.map fun z => Value.int .u64 z).toArray t fr) := by
      have hp' := hp
      unfold Lib.TabIs World.var? at hp'
      rw [hg] at hp'
      simp only [Option.bind_some] at hp'
      split at hp'
      · rename_i cs t fr hb
        injection hp' with e
        exact ⟨t, fr, e ▸ hb⟩
      · cases hp'
    have hlt : 1 < W.heap.size := by
      rcases Nat.lt_or_ge 1 W.heap.size with h' | h'
      · exact h'
      · rw [Array.getElem?_eq_none h'] at hb; cases hb
    refine ⟨⟨rfl, fun cs hcs => ⟨by decide, _, t, fr, rfl, ?_⟩⟩, fun _ => ⟨_, rfl, hlt, fun j u hu => ?_⟩⟩
    · simp only [gPow, Option.some.injEq] at hcs
      rw [← hcs]; exact hb
    · rw [Addr.add_lit, Nat.zero_add]
      simpa [World.cell?, hb, gPow] using hu
  · exact ro_cell hm
  · exact ro_cell hse
  · exact ro_cell hsr
theorem holds_start {W : World} {R : List Ro} (h : ∀ r ∈ R, Ro.holds W r) : Holds W (bl []) W R [] :=
  ⟨rfl, rfl, rfl, Nat.le_refl _, nofun, by simp [bl], fun b hb => by simp [bl] at hb, fun _ _ _ => rfl, fun r hr => ⟨h r hr, fun _ _ _ hb => by simp [bl] at hb⟩⟩
theorem holds_since {W W' : World} {R : List Ro} {H : List Own} (h : Holds W (bl []) W' R H) : W.Since W.heap.size W' :=
  ⟨h.os, h.tape, h.output, h.size, fun k hk => h.frame k hk (by simp [bl])⟩
theorem args_stay {H : Type} {enc : TypeId × Value → H} {W W' : World} (hs : W.Since W.heap.size W') : ∀ {ts : List TypeId} {vs : List Value} {ds : List (DataW H)} {ps : List MemPlace},
    (∀ t ∈ ts, Tryz.prog.readableRec t = true ∧ t < Tryz.prog.types.size) → DataW.TrodAll enc Tryz.prog W 0 (fun _ => true) true ts vs ds ps → (∀ p ∈ ps, p.block < W.heap.size) →
    DataW.TrodAll enc Tryz.prog W' 0 (fun b => decide (b < W.heap.size)) true ts vs ds ps
  | [], [], [], _, _, h, _ => h
  | _ :: _, _ :: _, _ :: _, _, hT, ⟨p, q, h1, h2, e⟩, hlt =>
    ⟨p, q, WideElems.Trod_stays laidOut (hT _ (by simp)).1 (hT _ (by simp)).2 h1 (fun x hx => hs.sameAt (hlt x (by rw [e]; exact List.mem_append_left _ hx))) (fun x hx => by simpa using hlt x (by rw [e]; exact List.mem_append_left _ hx)),
      args_stay hs (fun t ht => hT t (List.mem_cons_of_mem _ ht)) h2 (fun x hx => hlt x (by rw [e]; exact List.mem_append_right _ hx)), e⟩
/-- A law's end: it returned true and nothing that was there has turned. -/
theorem law_post {H : Type} {enc : TypeId × Value → H} {fn : Func} {s : ChangeSpec} {W : World} {args : Array Value} {ds : List (DataW H)} {before : List MemPlace} (hv : s.vars = []) (hrt : fn.resultTypes = #[4])
    (hT : ∀ t ∈ fn.params.toList, Tryz.prog.readableRec t = true ∧ t < Tryz.prog.types.size)
    (hW : DataW.Whole enc Tryz.prog fn.params.toList s.vars false W args.toList ds [] before) (hf : s.fn H (ds ++ []) = { results := [.lit (.bool true)], args := ds }) {W' : World} {R : List Ro} {H1 : List Own} (hH : Holds W (bl []) W' R H1) :
    s.post enc Tryz.prog fn false true false false W args (.bool true) W' := by
  have hW' := hW
  obtain ⟨p, q, hA, hV, rfl, _, _⟩ := hW
  rw [hv] at hV
  obtain ⟨_, rfl⟩ := trodVars_none hV
  have hs := holds_since hH
  refine ⟨ds, [], _, [], p, [], hW', ?_, ?_, ?_, hs.frame _, fun h => by cases h⟩
  · rw [hf, hrt]; exact trodAll_mk1 (shut_bool Tryz.underlying4 true)
  · rw [hf]; exact args_stay hs hT hA (fun x hx => hW'.lt x (by simp [hx]))
  · rw [hf, hv]; rfl
end Go.Proofs.YtiofekhdicfmoaaGreatDoor

/- A world that meets the rows' conditions: the variables laid. -/
namespace Go.Proofs.YtiofekhdicfmoaaGreatDoor
open Go Go.Hr Go.ChangeShapes Go.WideShapes Go.ChangeAt Go.RowKit Go.Deep
set_option linter.all false
set_option maxRecDepth 100000
noncomputable def plainL : List (String × DataW Unit) := Rows.headNilRow.laid.filter fun x => x.2.handleName?.isNone
noncomputable def baseW (os : Os) : World :=
  { World.holding Tryz.prog os ⟨#[], #[], []⟩ with heap := (World.holding Tryz.prog os ⟨#[], #[], []⟩).heap.modify 0 fun
      | .cells _ t frozen => .cells #[.iface 192 (.agg #[.pointer (some ⟨9, 89, none⟩)])] t frozen
      | o => o }
noncomputable def laidW (os : Os) : World := (baseW os).layVars Tryz.prog plainL
theorem laidW_os (os : Os) : (laidW os).os = os := World.layVars_os _ _ _
theorem laidW_met (os : Os) (args : Array Value) : laidMetH Tryz.prog Rows.headNilRow.laid ((laidW os).forCall (fun _ _ => 0) ⟨#[], args, []⟩).memory := by
  refine laidMetH_of_parts ?_ ?_
  · have e1 : (plainL.filter fun x => (plainL.map (·.1)).contains x.1) = plainL := List.filter_eq_self.2 fun x hx => List.contains_iff_mem.2 (List.mem_map.2 ⟨x, hx, rfl⟩)
    have e2 : (plainL.filter fun x => !(plainL.map (·.1)).contains x.1) = [] := List.filter_eq_nil_iff.2 fun x hx => by rw [List.contains_iff_mem.2 (List.mem_map.2 ⟨x, hx, rfl⟩)]; simp
    have h : laidMet Tryz.prog plainL (laidW os) := laidMet_layVars (w0 := baseW os) (plainL.map (·.1)) [] (by rw [e1]; rfl) (by rw [e1]; kernel_rfl) (by rw [e1]; kernel_rfl) (by rw [e2]; exact LaidIn.none)
    exact h.of_heap (by simp [World.memory, World.forCall, Input.heap])
  · kernel_rfl
theorem laidW_shaped (os : Os) (args : Array Value) : ((laidW os).forCall (fun _ _ => 0) ⟨#[], args, []⟩).Shaped Tryz.prog := World.shaped_of_ZipB (by kernel_rfl) (by kernel_rfl)
theorem wit {H : Type} {enc : TypeId × Value → H} {os : Os} {f : FuncId} {fn : Func} {s : OpenSpec} {conds : List PathCond} (args : Array Value)
    (hok : Input.okWideB Tryz.prog ((laidW os).forCall (fun _ _ => 0) ⟨#[], args, []⟩) f ⟨#[], args, []⟩ = true)
    (hrow : s.preRow enc Tryz.prog fn conds false Rows.headNilRow.laid ((laidW os).forCall (fun _ _ => 0) ⟨#[], args, []⟩).memory args) :
    ∃ (w : World) (tape : Tape) (i : Input), w.os = os ∧ (w.forCall tape i).Shaped Tryz.prog ∧ i.vars = [] ∧ Input.okWide Tryz.prog (w.forCall tape i) .any w.heap.size f i ∧
      s.preRow enc Tryz.prog fn conds false Rows.headNilRow.laid (w.forCall tape i).memory i.args ∧ ({ modest := false } : Assume).holds Tryz.prog (lone (Frame.enter Tryz.prog f i.args .normal) [] (w.forCall tape i)) :=
  ⟨laidW os, fun _ _ => 0, ⟨#[], args, []⟩, laidW_os os, laidW_shaped os args, (Input.okWide_of_okWideB (base := 0) hok).1, (Input.okWide_of_okWideB hok).2, hrow, by
    simp only [Assume.holds]
    exact ⟨by simp, by simp, fun _ => Modest.zero, by simp, by simp⟩⟩
end Go.Proofs.YtiofekhdicfmoaaGreatDoor

/- Arguments opened: bytes; what the bound on the arguments' bulk gives. -/
namespace Go.Proofs.YtiofekhdicfmoaaGreatDoor
open Go Go.Hr Go.ChangeShapes Go.WideShapes Go.ChangeAt Go.RowKit Go.Deep
set_option linter.all false
theorem bulk_one {H : Type} (d : DataW H) : 1 ≤ Rows.uptoBulk d := by
  cases d with
  | lit l => cases l <;> simp [Rows.uptoBulk]
  | nil => simp [Rows.uptoBulk]
  | ptr d => simp [Rows.uptoBulk]
  | slice elems spare => simp [Rows.uptoBulk]
  | agg parts => simp [Rows.uptoBulk]
  | iface t d => simp [Rows.uptoBulk]
  | map entries => simp [Rows.uptoBulk]
  | held h => simp [Rows.uptoBulk]
theorem bulk_len {H : Type} (l : List (DataW H)) : l.length ≤ Rows.uptoBulkAll l := by
  induction l with
  | nil => simp [Rows.uptoBulkAll]
  | cons x r ih => have := bulk_one x; simp only [Rows.uptoBulkAll, List.length_cons]; omega
theorem bulk_slice {H : Type} (elems spare : List (DataW H)) : elems.length ≤ Rows.uptoBulk (.slice elems spare) := by
  have := bulk_len elems
  simp only [Rows.uptoBulk]; omega
theorem bulk_bound {H : Type} {l : List (DataW H)} (hk : Rows.uptoSmall H l = true) : Rows.uptoBulkAll l ≤ 1048576 := by
  simpa [Rows.uptoSmall] using hk
theorem u8_back (z : Int) (h : 0 ≤ z ∧ z ≤ 255) : ((UInt8.ofNat z.toNat).toNat : Int) = z := by
  rw [UInt8.toNat_ofNat_of_lt' (by show z.toNat < 256; omega)]
  omega
/-- Bytes that came in. -/
theorem open_bytes {H : Type} {enc : TypeId × Value → H} {W : World} {fuel : Nat} {v : Value} {y : DataW H × List MemPlace} (h : DataW.trod enc Tryz.prog W 0 (fun _ => true) true fuel 33 [v] = some y) :
    ∃ (A : Option Addr) (c : Nat) (b : List UInt8), v = .slice A b.length c ∧ b.length ≤ c ∧ c ≤ maxLen ∧ Ro.holds W ⟨A, 1, b.length, bytesV b, none⟩ ∧ b.length ≤ Rows.uptoBulk y.1 := by
  rcases open_ints Tryz.underlying33 Tryz.underlying5 (by kernel_rfl) h with ⟨hc, hx⟩ | ⟨a, len, cap, zs, hc, _, hl, hm, hz, hx, hcell, hw⟩
  · simp only [List.cons.injEq, and_true] at hc
    refine ⟨none, 0, [], hc, Nat.le_refl _, Nat.zero_le _, ⟨⟨rfl, nofun⟩, fun hn => absurd hn (by simp)⟩, by simp⟩
  · simp only [List.cons.injEq, and_true] at hc
    simp only [if_true] at hz
    have hbl : ((zs.take len).map fun z => UInt8.ofNat z.toNat).length = len := by rw [List.length_map, List.length_take]; omega
    have hbv : bytesV ((zs.take len).map fun z => UInt8.ofNat z.toNat) = (zs.take len).map fun z => Value.int .u8 z := by
      unfold bytesV
      rw [List.map_map]
      refine List.map_congr_left fun z hzm => ?_
      have hb := bounds_u8 (hw z (List.mem_of_mem_take hzm))
      simp only [Function.comp]
      rw [u8_back z hb]
    refine ⟨some a, cap, (zs.take len).map fun z => UInt8.ofNat z.toNat, by rw [hbl]; exact hc, by rw [hbl]; exact hl, hm, ?_, ?_⟩
    · rw [hbl, hbv]
      refine ⟨⟨by simp; omega, nofun⟩, fun hn => ⟨a, rfl, ?_, fun j u hu => ?_⟩⟩
      · have hn' : 0 < len := hn
        exact World.block_lt_of_cell? _ _ (by have := hcell 0 (by omega); simpa [Addr.add] using this)
      · rw [List.getElem?_map] at hu
        have hj : j < len := by
          rcases Nat.lt_or_ge j len with h' | h'
          · exact h'
          · rw [List.getElem?_eq_none (by rw [List.length_take]; omega)] at hu; cases hu
        rw [List.getElem?_take_of_lt hj, List.getElem?_eq_getElem (by omega)] at hu
        simp only [Option.map_some, Option.some.injEq] at hu
        rw [hcell j (by omega), ← hu]
        simp [List.getD, List.getElem?_eq_getElem (show j < zs.length by omega)]
    · rw [hbl, hx]
      have := bulk_slice (lits (H := H) .u8 (zs.take len)) (lits .u8 (zs.drop len))
      have e : (lits (H := H) .u8 (zs.take len)).length = len := by simp [lits]; omega
      rw [e] at this
      exact this
theorem rs_holds {W : World} {G : Glob} {R : List Ro} (hR : ∀ r ∈ R, Ro.holds W r) (hG : ∀ r ∈ GL G, Ro.holds W r) : ∀ r ∈ R ++ GL G, Ro.holds W r := fun r hr =>
  (List.mem_append.1 hr).elim (hR r) (hG r)
end Go.Proofs.YtiofekhdicfmoaaGreatDoor
