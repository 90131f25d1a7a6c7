import Derived.Test.YtchpmmjmimaigaaGreatDoorKh33
import Derived.SizedLaws
import Derived.Carry
set_option linter.unusedSectionVars false
set_option linter.unusedVariables false
set_option linter.unusedSimpArgs false
namespace Go.Proofs.YtchpmmjmimaigaaGreatDoor
section
namespace topHome
open _root_.Go.Proofs.Tryz
open Go Go.RowKit Go.ChangeShapes Go.WideShapes Go.ChangeAt
open Go.ChangeMaps (setBlock shut_map_nil open_string shut_string keptBut_setBlock frozen?_setBlock heap_setBlock_same)
set_option maxRecDepth 100000
theorem ZgN(os:Os):laidMet prog Rows.topHomeRow.laid ((Sa os).forCall (fun _ _=>0) ⟨#[],#[.int .i64 0,.slice none 0 0,.slice none 0 0],[]⟩).memory:=
 laidMet_of_run' 8 (by kernel_rfl) (by kernel_rfl)
theorem Ze5(os:Os){H:Type}(enc:TypeId×Value→H):∃places,DataW.whole enc prog ((Sa os).forCall (fun _ _=>0) ⟨#[],#[.int .i64 0,.slice none 0 0,.slice none 0 0],[]⟩).memory f3.params.toList Rows.topHomeSpec.vars false #[Value.int .i64 0,Value.slice none 0 0,Value.slice none 0 0].toList 8=some ([.lit (.int .i64 0),.nil,.nil],[],places):=
 ⟨[],by kernel_rfl⟩
theorem lifted(os:Os)(started:os.Started)(H:Type)(enc:TypeId×Value→H)(F:Stop.Interp):
  ReturnsInHanded {} Tryz.checked os 3 .any ((OpenSpec.ofChange Rows.topHomeSpec).preRow enc prog f3 Rows.topHomeRow.domain false Rows.topHomeRow.laid) (((OpenSpec.ofChange Rows.topHomeSpec).at F).post enc prog f3 false true false false):=by
 obtain⟨places,hx⟩:=Ze5 os enc;refine returnsInHanded_of_row (C:=Tryz.checked) (s:=OpenSpec.ofChange Rows.topHomeSpec) own started (by kernel_rfl) func3
  (witness_row_at (enc:=enc) (C:=Tryz.checked) false (Sa os) #[.int .i64 0,.slice none 0 0,.slice none 0 0] rfl (by kernel_rfl) (by kernel_rfl) (by kernel_rfl)
   (OpenSpec.preRow_of_cond 8 hx (by kernel_rfl) (fun k hk=>by cases hk) (by kernel_rfl) (ZgN os))) ?_
 intro W base args ds gs before hval hW _ _ hR hL _ _;exact contract H enc W base args ds gs before hval hW hR hL
end topHome
end
end Go.Proofs.YtchpmmjmimaigaaGreatDoor
