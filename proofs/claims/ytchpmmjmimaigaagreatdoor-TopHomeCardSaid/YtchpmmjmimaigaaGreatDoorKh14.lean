import Derived.Test.YtchpmmjmimaigaaGreatDoorKh6
import Derived.Test.YtchpmmjmimaigaaGreatDoorKh13
set_option linter.unusedSectionVars false
set_option linter.unusedVariables false
set_option linter.unusedSimpArgs false
namespace Go.Proofs.YtchpmmjmimaigaaGreatDoor
section
namespace Pe
open Tryz
open Go Go.RowKit Sm
instance tabs:Tab:=⟨fun b i=>if b=1∧i<64 then some (Ag (Ff.getD i 0))else if b=0∧i<8 then some (Ag (B3.list.getD i 0))else none⟩
theorem DX.of{w:World}{g:Gh}(h:Mr w g):DX w:=by
 refine⟨fun i hi=>(h 1 i _ ?_).2,fun i hi=>(h 0 i _ ?_).2⟩
 ·show(if _ then _ else _)=_
  rw[if_pos ⟨rfl,hi⟩]
 ·show(if _ then _ else _)=_
  rw[if_neg (fun e=>absurd e.1 (by decide)),if_pos ⟨rfl,hi⟩]
theorem MK(l:List UInt8)(h:l.length≤70368744177664):AC prog 50 [.st l] [] (.st (sha l)) []:=by
 refine AC.ofBelow (by kernel_rfl) fun w g cargs ht hargs=>?_
 rw[M6 hargs];refine(ZdO ⟨l.toArray⟩ w (by simp[ByteArray.size];omega) (DX.of ht)).mono ?_
 rintro r w' ⟨rfl,hb⟩
 refine⟨_,rfl,fun g'=>?_,hb⟩
 exact .st g' _
theorem Q0(l:List UInt8)(h:l.length≤70368744177664):AC prog 89 [.st l] [] (.st (sha l)) []:=by
 refine AC.ofBelow (by kernel_rfl) fun w g cargs ht hargs=>?_
 rw[M6 hargs];refine(Zer ⟨l.toArray⟩ w (by simp[ByteArray.size];omega)).mono ?_
 rintro r w' ⟨rfl,hb⟩
 refine⟨_,rfl,fun g'=>?_,hb⟩
 exact .st g' _
end Pe
end
end Go.Proofs.YtchpmmjmimaigaaGreatDoor
