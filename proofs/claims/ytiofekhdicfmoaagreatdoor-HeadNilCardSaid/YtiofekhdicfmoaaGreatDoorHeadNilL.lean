/- THE LAW LIFTED TO ALL INPUTS. HeadNil, for every input: a nil parser reads nothing. Conditions: the package's variables as the program's text lays them (the row's own list); nothing is asked of the argument. -/
import Derived.Test.YtiofekhdicfmoaaGreatDoorMJ
import Derived.Test.YtiofekhdicfmoaaGreatDoorMK
namespace Go.Proofs.YtiofekhdicfmoaaGreatDoor
open Go Go.Hr Go.ChangeShapes Go.WideShapes Go.ChangeAt Go.RowKit Go.Deep
set_option linter.all false
set_option maxRecDepth 100000
set_option maxHeartbeats 1000000
namespace pHeadNil
theorem reads (os : Os) {H : Type} (enc : TypeId × Value → H) : ∃ places, DataW.whole enc Tryz.prog ((laidW os).forCall (fun _ _ => 0) ⟨#[], #[.slice none 0 0], []⟩).memory Tryz.f5.params.toList Rows.headNilSpec.vars false (#[.slice none 0 0] : Array Value).toList 8 = some ([.nil], [], places) :=
  ⟨[], by kernel_rfl⟩
theorem lifted (os : Os) (started : os.Started) (H : Type) (enc : TypeId × Value → H) (F : Stop.Interp) :
    ReturnsInHanded {} Tryz.checked os 5 .any ((OpenSpec.ofChange Rows.headNilSpec).preRow enc Tryz.prog Tryz.f5 Rows.headNilRow.domain false Rows.headNilRow.laid) (((OpenSpec.ofChange Rows.headNilSpec).at F).post enc Tryz.prog Tryz.f5 false true false false) := by
  obtain ⟨places, hx⟩ := reads os enc
  refine returnsInHanded_of_row (C := Tryz.checked) (s := OpenSpec.ofChange Rows.headNilSpec) own started (by kernel_rfl) Tryz.func5
    (wit #[.slice none 0 0] (by kernel_rfl) (OpenSpec.preRow_of_cond 8 hx (by kernel_rfl) (fun k hk => by cases hk) (by kernel_rfl) (laidW_met os _))) ?_
  intro W base args ds gs before hval0 hW _ hcond _ hL hsh _
  have hval : ∀ (j : Nat) t v, Tryz.f5.params[j]? = some t → args[j]? = some v → Value.okWide Tryz.prog W .any base t v := hval0
  have hW' := hW
  obtain ⟨p, q, hA0, hV, rfl, hfz, hnd⟩ := hW
  have hA : DataW.TrodAll enc Tryz.prog W 0 (fun _ => true) true Tryz.f5.params.toList args.toList ds p := hA0
  rw [Tryz.params5] at hA hval
  obtain ⟨v0, d0, rfl, rfl, h0⟩ := trodAll_one hA
  obtain ⟨rfl, rfl⟩ := trodVars_none hV
  obtain ⟨G, hG⟩ := globs hL hsh
  obtain ⟨a0, ln, cp, rfl⟩ := okWide_slice Tryz.underlying33 (hval 0 33 v0 rfl rfl)
  have hc : CallsA Tryz.prog 5 _ _ [] (fun v H' => v = .bool true ∧ H' = []) := c5 G a0 ln cp
  unfold CallsA at hc
  refine (hc W (holds_start hG)).mono fun e W' ⟨v, H1, he, ⟨hv, _⟩, hH⟩ => ?_
  subst he hv
  exact ⟨_, rfl, law_post rfl rfl (by decide +kernel) hW' rfl hH⟩
end pHeadNil
end Go.Proofs.YtiofekhdicfmoaaGreatDoor
