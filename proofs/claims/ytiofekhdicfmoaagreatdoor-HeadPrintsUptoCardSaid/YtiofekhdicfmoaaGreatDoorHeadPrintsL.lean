/- THE LAW LIFTED TO ALL INPUTS. HeadPrints, for every head whose bulk is at most 1048576: what is printed is what the second printer prints, and is read back the same. Conditions: the bound on the argument, and the package's variables as the program's text lays them (the row's own list). -/
import Derived.Test.YtiofekhdicfmoaaGreatDoorMJ
import Derived.Test.YtiofekhdicfmoaaGreatDoorMP
import Derived.Test.YtiofekhdicfmoaaGreatDoorMO
namespace Go.Proofs.YtiofekhdicfmoaaGreatDoor
open Go Go.Hr Go.ChangeShapes Go.WideShapes Go.ChangeAt Go.RowKit Go.Deep
set_option linter.all false
set_option maxRecDepth 100000
set_option maxHeartbeats 1000000
namespace pHeadPrints
theorem reads (os : Os) {H : Type} (enc : TypeId × Value → H) : ∃ places, DataW.whole enc Tryz.prog ((laidW os).forCall (fun _ _ => 0) ⟨#[], #[.agg #[.bool false, .string ⟨#[]⟩, .string ⟨#[]⟩, .int .i64 0, .int .i64 0, .string ⟨#[]⟩, .slice none 0 0]], []⟩).memory Tryz.f3.params.toList Rows.headPrintsSpec.vars false (#[.agg #[.bool false, .string ⟨#[]⟩, .string ⟨#[]⟩, .int .i64 0, .int .i64 0, .string ⟨#[]⟩, .slice none 0 0]] : Array Value).toList 8 = some ([.agg [.lit (.bool false), .lit (.string []), .lit (.string []), .lit (.int .i64 0), .lit (.int .i64 0), .lit (.string []), .nil]], [], places) :=
  ⟨[], by kernel_rfl⟩
theorem lifted (os : Os) (started : os.Started) (H : Type) (enc : TypeId × Value → H) (F : Stop.Interp) :
    ReturnsInHanded {} Tryz.checked os 3 .any ((Rows.OpenSpec.upto Rows.headPrintsSpec).preRow enc Tryz.prog Tryz.f3 Rows.headPrintsUptoRow.domain false Rows.headPrintsUptoRow.laid) (((Rows.OpenSpec.upto Rows.headPrintsSpec).at F).post enc Tryz.prog Tryz.f3 false true false false) := by
  obtain ⟨places, hx⟩ := reads os enc
  refine returnsInHanded_of_row (C := Tryz.checked) (s := Rows.OpenSpec.upto Rows.headPrintsSpec) own started (by kernel_rfl) Tryz.func3
    (wit #[.agg #[.bool false, .string ⟨#[]⟩, .string ⟨#[]⟩, .int .i64 0, .int .i64 0, .string ⟨#[]⟩, .slice none 0 0]] (by kernel_rfl) (OpenSpec.preRow_of_cond 8 hx (by kernel_rfl) (fun k hk => by cases hk; kernel_rfl) (by kernel_rfl) (laidW_met os _))) ?_
  intro W base args ds gs before hval0 hW _ hcond _ hL hsh _
  have hval : ∀ (j : Nat) t v, Tryz.f3.params[j]? = some t → args[j]? = some v → Value.okWide Tryz.prog W .any base t v := hval0
  have hW' := hW
  obtain ⟨p, q, hA0, hV, rfl, hfz, hnd⟩ := hW
  have hA : DataW.TrodAll enc Tryz.prog W 0 (fun _ => true) true Tryz.f3.params.toList args.toList ds p := hA0
  rw [Tryz.params3] at hA hval
  obtain ⟨v0, d0, rfl, rfl, h0⟩ := trodAll_one hA
  obtain ⟨rfl, rfl⟩ := trodVars_none hV
  have hbk := bulk_bound (hcond _ rfl)
  simp only [List.append_nil, Rows.uptoBulkAll] at hbk
  obtain ⟨G, hG⟩ := globs hL hsh
  obtain ⟨h, A, c, rfl, hm, hs, hro, hb1, hb2⟩ := open_head (hval 0 24 v0 rfl rfl) h0
  have hb3 := textI_le h hm hs
  have hc : CallsA Tryz.prog 3 _ _ [] (fun v H' => v = .bool true ∧ H' = []) := c3 G h A c hm hs (by omega) (by omega) (by omega)
  unfold CallsA at hc
  refine (hc W (holds_start (rs_holds (R := [_]) (by simpa using hro) hG))).mono fun e W' ⟨v, H1, he, ⟨hv, _⟩, hH⟩ => ?_
  subst he hv
  exact ⟨_, rfl, law_post rfl rfl (by decide +kernel) hW' rfl hH⟩
end pHeadPrints
end Go.Proofs.YtiofekhdicfmoaaGreatDoor
