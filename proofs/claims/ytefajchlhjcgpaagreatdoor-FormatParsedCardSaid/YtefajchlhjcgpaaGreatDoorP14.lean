/- Seat 33: copyCheck of a builder at the head of format.writer. -/
import Derived.KernelRfl
import Derived.Test.YtefajchlhjcgpaaGreatDoorProg
import Derived.Test.YtefajchlhjcgpaaGreatDoorP06
set_option linter.all false
noncomputable section
namespace Go.Am
open Go Go.Shelf Go.RowKit Go.Proofs
set_option maxHeartbeats 1000000 in
set_option maxRecDepth 100000 in
def ZA(b:Nat)(w:World)(d:w.cell? ⟨b,0,none⟩=some (.pointer (some ⟨b,0,none⟩))) :
  Calls Tryz.prog 87 #[.pointer (some ⟨b,0,none⟩)] w λe w'=>e=.returned (.tuple #[])/\w'=w:=by
 obtain⟨j,a,c⟩:=Z8.1 (show(Tryz.prog.info? 98).map (·.size)=some 2 by kernel_rfl)
 go_enter Tryz.func87,Tryz.ntmps87
 go_wp2
 rw[Lib.run_neq_ptr_same w _ Tryz.underlying95 a];go_wp2
 go_end0
 simp_all
set_option maxHeartbeats 1000000 in
set_option maxRecDepth 100000 in
theorem ZC(b n:Nat)(w:World)(i:w.cell? ⟨b,0,none⟩=some (.pointer none))(c:w.shape? b=some (134,n))(m:2<n)(f:w.frozen? ⟨b,0,none⟩=false) :
  Calls Tryz.prog 87 #[.pointer (some ⟨b,0,none⟩)] w λe w'=>e=.returned (.tuple #[])/\w'=w.setCell ⟨b,0,none⟩ (.pointer (some ⟨b,0,none⟩)):=by
 obtain⟨j,d,g⟩:=Z8.1 (show(Tryz.prog.info? 98).map (·.size)=some 2 by kernel_rfl);have l:Tryz.prog.cellsOf 134=3:=by kernel_rfl
 have a:liesAt Tryz.prog Tryz.prog.depth 134 (n / Tryz.prog.cellsOf 134) 0 98 1=true:=by
  obtain⟨k,h⟩:∃k,n / Tryz.prog.cellsOf 134=k+1:=⟨n / Tryz.prog.cellsOf 134-1,by grind⟩;rw[h];kernel_rfl
 go_enter Tryz.func87,Tryz.ntmps87
 go_wp2
 rw[Lib.run_to_unsafe w ⟨b,0,none⟩ Tryz.underlying95 Tryz.underlying224 d (by omega) c (show 0<n by omega)];simp only[Result.andThen];rw[Oper.upon_value];go_wp2;rw[run_callFunc_extern Tryz.func146 (by kernel_rfl) (by kernel_rfl) (by kernel_rfl) (e:=Extern.AbiNoEscape.same) (by kernel_rfl)];rw[Lib.run_noEscape];simp only[Result.andThen];rw[Oper.upon_value];go_wp2;rw[Lib.run_from_unsafe w ⟨b,0,none⟩ Tryz.underlying224 Tryz.underlying95 d c a];simp only[Result.andThen];rw[Oper.upon_value];go_wp2
 go_end0
 simp_all
set_option maxHeartbeats 1000000 in
set_option maxRecDepth 100000 in
theorem ZB(b n:Nat)(w:World)(i:w.cell? ⟨b,0,none⟩=some (.pointer none))(c:w.shape? b=some (98,n))(m:1<n)(f:w.frozen? ⟨b,0,none⟩=false) :
  Calls Tryz.prog 87 #[.pointer (some ⟨b,0,none⟩)] w λe w'=>e=.returned (.tuple #[])/\w'=w.setCell ⟨b,0,none⟩ (.pointer (some ⟨b,0,none⟩)):=by
 obtain⟨j,d,g⟩:=Z8.1 (show(Tryz.prog.info? 98).map (·.size)=some 2 by kernel_rfl);have l:Tryz.prog.cellsOf 98=2:=by kernel_rfl
 have a:liesAt Tryz.prog Tryz.prog.depth 98 (n / Tryz.prog.cellsOf 98) 0 98 1=true:=by
  obtain⟨k,h⟩:∃k,n / Tryz.prog.cellsOf 98=k+1:=⟨n / Tryz.prog.cellsOf 98-1,by grind⟩;rw[h];kernel_rfl
 go_enter Tryz.func87,Tryz.ntmps87
 go_wp2
 rw[Lib.run_to_unsafe w ⟨b,0,none⟩ Tryz.underlying95 Tryz.underlying224 d (by omega) c (show 0<n by omega)];simp only[Result.andThen];rw[Oper.upon_value];go_wp2;rw[run_callFunc_extern Tryz.func146 (by kernel_rfl) (by kernel_rfl) (by kernel_rfl) (e:=Extern.AbiNoEscape.same) (by kernel_rfl)];rw[Lib.run_noEscape];simp only[Result.andThen];rw[Oper.upon_value];go_wp2;rw[Lib.run_from_unsafe w ⟨b,0,none⟩ Tryz.underlying224 Tryz.underlying95 d c a];simp only[Result.andThen];rw[Oper.upon_value];go_wp2
 go_end0
 simp_all
end Go.Am
