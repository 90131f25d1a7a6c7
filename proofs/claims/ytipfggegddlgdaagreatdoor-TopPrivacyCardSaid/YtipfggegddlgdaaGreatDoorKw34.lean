import Derived.Test.YtipfggegddlgdaaGreatDoorKw33
import Derived.SizedLaws
import Derived.Carry
set_option linter.unusedSectionVars false
set_option linter.unusedVariables false
set_option linter.unusedSimpArgs false
namespace Go.Proofs.YtipfggegddlgdaaGreatDoor
section
namespace topPrivacy
open _root_.Go.Proofs.Tryz
open Go Go.RowKit Go.ChangeShapes Go.WideShapes Go.ChangeAt
open Go.ChangeMaps (setBlock shut_map_nil open_string shut_string keptBut_setBlock frozen?_setBlock heap_setBlock_same)
set_option maxRecDepth 100000
theorem Zek(os:Os):laidMet prog Rows.topPrivacyRow.laid ((Qn os).forCall (fun _ _=>0) ⟨#[],#[.slice none 0 0,.int .i64 0],[]⟩).memory:=
 laidMet_of_run' 8 (by kernel_rfl) (by kernel_rfl)
theorem ZcF(os:Os){H:Type}(enc:TypeId×Value→H):∃places,DataW.whole enc prog ((Qn os).forCall (fun _ _=>0) ⟨#[],#[.slice none 0 0,.int .i64 0],[]⟩).memory f3.params.toList Rows.topPrivacySpec.vars false #[Value.slice none 0 0,Value.int .i64 0].toList 8=some ([.nil,.lit (.int .i64 0)],[],places):=
 ⟨[],by kernel_rfl⟩
theorem lifted(os:Os)(started:os.Started)(H:Type)(enc:TypeId×Value→H)(F:Stop.Interp):
  ReturnsInHanded {} Tryz.checked os 3 .any ((OpenSpec.ofChange Rows.topPrivacySpec).preRow enc prog f3 Rows.topPrivacyRow.domain false Rows.topPrivacyRow.laid) (((OpenSpec.ofChange Rows.topPrivacySpec).at F).post enc prog f3 false true false false):=by
 obtain⟨places,hx⟩:=ZcF os enc;refine returnsInHanded_of_row (C:=Tryz.checked) (s:=OpenSpec.ofChange Rows.topPrivacySpec) own started (by kernel_rfl) func3
  (witness_row_at (enc:=enc) (C:=Tryz.checked) false (Qn os) #[.slice none 0 0,.int .i64 0] rfl (by kernel_rfl) (by kernel_rfl) (by kernel_rfl)
   (OpenSpec.preRow_of_cond 8 hx (by kernel_rfl) (fun k hk=>by cases hk) (by kernel_rfl) (Zek os))) ?_
 intro W base args ds gs before hval hW _ _ hR hL _ _;exact contract H enc W base args ds gs before hval hW hR hL
end topPrivacy
end
end Go.Proofs.YtipfggegddlgdaaGreatDoor
