/- THE LAW LIFTED TO ALL INPUTS. HeadStrict, for every input whose bulk is at most 1048576: in a head that is read nothing slips in, and what is printed of it is read the same. Conditions: the bound on the arguments, and the package's variables as the program's text lays them (the row's own list). -/
import Derived.Test.YtiofekhdicfmoaaGreatDoorMJ
import Derived.Test.YtiofekhdicfmoaaGreatDoorML
namespace Go.Proofs.YtiofekhdicfmoaaGreatDoor
open Go Go.Hr Go.ChangeShapes Go.WideShapes Go.ChangeAt Go.RowKit Go.Deep
set_option linter.all false
set_option maxRecDepth 100000
set_option maxHeartbeats 1000000
namespace pHeadStrict
theorem reads (os : Os) {H : Type} (enc : TypeId × Value → H) : ∃ places, DataW.whole enc Tryz.prog ((laidW os).forCall (fun _ _ => 0) ⟨#[], #[.bool false, .slice none 0 0], []⟩).memory Tryz.f4.params.toList Rows.headStrictSpec.vars false (#[.bool false, .slice none 0 0] : Array Value).toList 8 = some ([.lit (.bool false), .nil], [], places) :=
  ⟨[], by kernel_rfl⟩
theorem lifted (os : Os) (started : os.Started) (H : Type) (enc : TypeId × Value → H) (F : Stop.Interp) :
    ReturnsInHanded {} Tryz.checked os 4 .any ((Rows.OpenSpec.upto Rows.headStrictSpec).preRow enc Tryz.prog Tryz.f4 Rows.headStrictUptoRow.domain false Rows.headStrictUptoRow.laid) (((Rows.OpenSpec.upto Rows.headStrictSpec).at F).post enc Tryz.prog Tryz.f4 false true false false) := by
  obtain ⟨places, hx⟩ := reads os enc
  refine returnsInHanded_of_row (C := Tryz.checked) (s := Rows.OpenSpec.upto Rows.headStrictSpec) own started (by kernel_rfl) Tryz.func4
    (wit #[.bool false, .slice none 0 0] (by kernel_rfl) (OpenSpec.preRow_of_cond 8 hx (by kernel_rfl) (fun k hk => by cases hk; kernel_rfl) (by kernel_rfl) (laidW_met os _))) ?_
  intro W base args ds gs before hval0 hW _ hcond _ hL hsh _
  have hval : ∀ (j : Nat) t v, Tryz.f4.params[j]? = some t → args[j]? = some v → Value.okWide Tryz.prog W .any base t v := hval0
  have hW' := hW
  obtain ⟨p, q, hA0, hV, rfl, hfz, hnd⟩ := hW
  have hA : DataW.TrodAll enc Tryz.prog W 0 (fun _ => true) true Tryz.f4.params.toList args.toList ds p := hA0
  rw [Tryz.params4] at hA hval
  obtain ⟨v0, v1, d0, d1, p0, p1, rfl, rfl, rfl, h0, h1⟩ := trodAll_two hA
  obtain ⟨rfl, rfl⟩ := trodVars_none hV
  have hbk := bulk_bound (hcond _ rfl)
  simp only [List.append_nil, Rows.uptoBulkAll] at hbk
  obtain ⟨G, hG⟩ := globs hL hsh
  obtain ⟨r, rfl, rfl, rfl⟩ := open_bool Tryz.underlying4 (hval 0 4 v0 rfl rfl) h0
  obtain ⟨a0, ln, cp, rfl⟩ := okWide_slice Tryz.underlying33 (hval 1 33 v1 rfl rfl)
  obtain ⟨fuel, h1f⟩ := h1
  obtain ⟨A, c, b, hv, hbc, _, hro, hbl⟩ := open_bytes h1f
  obtain ⟨rfl, rfl, rfl⟩ : A = a0 ∧ ln = b.length ∧ c = cp := by cases hv; exact ⟨rfl, rfl, rfl⟩
  dsimp only at hbl
  have hc : CallsA Tryz.prog 4 _ _ [] (fun v H' => v = .bool true ∧ H' = []) := c4 G r A c b (by omega)
  unfold CallsA at hc
  refine (hc W (holds_start (rs_holds (R := [_]) (by simpa using hro) hG))).mono fun e W' ⟨v, H1, he, ⟨hv, _⟩, hH⟩ => ?_
  subst he hv
  exact ⟨_, rfl, law_post rfl rfl (by decide +kernel) hW' rfl hH⟩
end pHeadStrict
end Go.Proofs.YtiofekhdicfmoaaGreatDoor
