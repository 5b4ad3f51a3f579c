/- THE LAW LIFTED TO ALL INPUTS. HeadCut, for every input whose bulk is at most 1048576: no beginning of a head is taken for it, and more bytes change nothing. Conditions: the bound on the arguments, and the package's variables as the program's text lays them (the row's own list). -/
import Derived.Test.YtiofekhdicfmoaaGreatDoorMJ
import Derived.Test.YtiofekhdicfmoaaGreatDoorMK
namespace Go.Proofs.YtiofekhdicfmoaaGreatDoor
open Go Go.Hr Go.ChangeShapes Go.WideShapes Go.ChangeAt Go.RowKit Go.Deep
set_option linter.all false
set_option maxRecDepth 100000
set_option maxHeartbeats 1000000
namespace pHeadCut
theorem reads (os : Os) {H : Type} (enc : TypeId × Value → H) : ∃ places, DataW.whole enc Tryz.prog ((laidW os).forCall (fun _ _ => 0) ⟨#[], #[.bool false, .agg #[.slice none 0 0, .int .i64 0, .slice none 0 0]], []⟩).memory Tryz.f6.params.toList Rows.headCutSpec.vars false (#[.bool false, .agg #[.slice none 0 0, .int .i64 0, .slice none 0 0]] : Array Value).toList 8 = some ([.lit (.bool false), .agg [.nil, .lit (.int .i64 0), .nil]], [], places) :=
  ⟨[], by kernel_rfl⟩
theorem lifted (os : Os) (started : os.Started) (H : Type) (enc : TypeId × Value → H) (F : Stop.Interp) :
    ReturnsInHanded {} Tryz.checked os 6 .any ((Rows.OpenSpec.upto Rows.headCutSpec).preRow enc Tryz.prog Tryz.f6 Rows.headCutUptoRow.domain false Rows.headCutUptoRow.laid) (((Rows.OpenSpec.upto Rows.headCutSpec).at F).post enc Tryz.prog Tryz.f6 false true false false) := by
  obtain ⟨places, hx⟩ := reads os enc
  refine returnsInHanded_of_row (C := Tryz.checked) (s := Rows.OpenSpec.upto Rows.headCutSpec) own started (by kernel_rfl) Tryz.func6
    (wit #[.bool false, .agg #[.slice none 0 0, .int .i64 0, .slice none 0 0]] (by kernel_rfl) (OpenSpec.preRow_of_cond 8 hx (by kernel_rfl) (fun k hk => by cases hk; kernel_rfl) (by kernel_rfl) (laidW_met os _))) ?_
  intro W base args ds gs before hval0 hW _ hcond _ hL hsh _
  have hval : ∀ (j : Nat) t v, Tryz.f6.params[j]? = some t → args[j]? = some v → Value.okWide Tryz.prog W .any base t v := hval0
  have hW' := hW
  obtain ⟨p, q, hA0, hV, rfl, hfz, hnd⟩ := hW
  have hA : DataW.TrodAll enc Tryz.prog W 0 (fun _ => true) true Tryz.f6.params.toList args.toList ds p := hA0
  rw [Tryz.params6] at hA hval
  obtain ⟨v0, v1, d0, d1, p0, p1, rfl, rfl, rfl, h0, h1⟩ := trodAll_two hA
  obtain ⟨rfl, rfl⟩ := trodVars_none hV
  have hbk := bulk_bound (hcond _ rfl)
  simp only [List.append_nil, Rows.uptoBulkAll] at hbk
  obtain ⟨G, hG⟩ := globs hL hsh
  obtain ⟨r, rfl, rfl, rfl⟩ := open_bool Tryz.underlying4 (hval 0 4 v0 rfl rfl) h0
  obtain ⟨x0, x1, x2, y0, y1, y2, n, rfl, rfl, rfl, g0, g1, g2⟩ := Joins.open_agg3 Tryz.underlying45 (by kernel_rfl) (by kernel_rfl) (hval 1 45 v1 rfl rfl) h1
  obtain ⟨A, c, b, rfl, hbc, _, hro, hbl⟩ := open_bytes g0
  obtain ⟨A2, c2, mo, rfl, _, _, hro2, hbl2⟩ := open_bytes g2
  obtain ⟨at_, ha, hy1, hwf⟩ := DataW.trod_int Tryz.underlying3 g1
  obtain rfl : x1 = .int .i64 at_ := by simpa using ha
  have hat := bounds_i64 hwf
  simp only [Rows.uptoBulk, Rows.uptoBulkAll] at hbk

  have hc : CallsA Tryz.prog 6 _ _ [] (fun v H' => v = .bool true ∧ H' = []) := c6 G r A A2 c c2 at_ b mo (by omega) (by omega) hbc hat
  unfold CallsA at hc
  refine (hc W (holds_start (rs_holds (R := [_, _]) (by intro q hq; simp only [List.mem_cons, List.not_mem_nil, or_false] at hq; rcases hq with rfl | rfl; exact hro; exact hro2) hG))).mono fun e W' ⟨v, H1, he, ⟨hv, _⟩, hH⟩ => ?_
  subst he hv
  exact ⟨_, rfl, law_post rfl rfl (by decide +kernel) hW' rfl hH⟩
end pHeadCut
end Go.Proofs.YtiofekhdicfmoaaGreatDoor
