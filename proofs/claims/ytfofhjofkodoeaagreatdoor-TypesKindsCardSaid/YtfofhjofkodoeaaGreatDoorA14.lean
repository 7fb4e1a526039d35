/- Seat 24: copyCheck of a builder at the head of format.writer. -/
import Derived.KernelRfl
import Derived.Test.YtfofhjofkodoeaaGreatDoorProg
import Derived.Test.YtfofhjofkodoeaaGreatDoorA06
set_option linter.all false
noncomputable section
namespace Go.Am
open Go Go.Shelf Go.RowKit Go.Proofs
set_option maxHeartbeats 1000000 in
set_option maxRecDepth 100000 in
def YP(b:Nat)(w:World)(h0:w.cell? ⟨b,0,none⟩=some (.pointer (some ⟨b,0,none⟩))) :
  Calls Tryz.prog 223 #[.pointer (some ⟨b,0,none⟩)] w fun e w'=>e=.returned (.tuple #[])/\w'=w:=by
 obtain⟨j,hj,hjs⟩:=yar.1 (show(Tryz.prog.info? 196).map (·.size)=some 2 by kernel_rfl)
 go_enter Tryz.func223,Tryz.ntmps223
 go_wp2
 rw[Lib.run_neq_ptr_same w _ Tryz.underlying194 hj];go_wp2
 go_end0
 simp_all
set_option maxHeartbeats 1000000 in
set_option maxRecDepth 100000 in
theorem YR(b n:Nat)(w:World)(h0:w.cell? ⟨b,0,none⟩=some (.pointer none))(hsh:w.shape? b=some (198,n))(hn:2<n)(hfz:w.frozen? ⟨b,0,none⟩=false) :
  Calls Tryz.prog 223 #[.pointer (some ⟨b,0,none⟩)] w fun e w'=>e=.returned (.tuple #[])/\w'=w.setCell ⟨b,0,none⟩ (.pointer (some ⟨b,0,none⟩)):=by
 obtain⟨j,hj,hjs⟩:=yar.1 (show(Tryz.prog.info? 196).map (·.size)=some 2 by kernel_rfl);have hc:Tryz.prog.cellsOf 198=3:=by kernel_rfl
 have hlie:liesAt Tryz.prog Tryz.prog.depth 198 (n / Tryz.prog.cellsOf 198) 0 196 1=true:=by
  obtain⟨k,hk⟩:∃k,n / Tryz.prog.cellsOf 198=k+1:=⟨n / Tryz.prog.cellsOf 198-1,by grind⟩;rw[hk];kernel_rfl
 go_enter Tryz.func223,Tryz.ntmps223
 go_wp2
 rw[Lib.run_to_unsafe w ⟨b,0,none⟩ Tryz.underlying194 Tryz.underlying261 hj (by omega) hsh (show 0<n by omega)];simp only[Result.andThen];rw[Oper.upon_value];go_wp2;rw[run_callFunc_extern Tryz.func238 (by kernel_rfl) (by kernel_rfl) (by kernel_rfl) (e:=Extern.AbiNoEscape.same) (by kernel_rfl)];rw[Lib.run_noEscape];simp only[Result.andThen];rw[Oper.upon_value];go_wp2;rw[Lib.run_from_unsafe w ⟨b,0,none⟩ Tryz.underlying261 Tryz.underlying194 hj hsh hlie];simp only[Result.andThen];rw[Oper.upon_value];go_wp2
 go_end0
 simp_all
set_option maxHeartbeats 1000000 in
set_option maxRecDepth 100000 in
theorem YQ(b n:Nat)(w:World)(h0:w.cell? ⟨b,0,none⟩=some (.pointer none))(hsh:w.shape? b=some (196,n))(hn:1<n)(hfz:w.frozen? ⟨b,0,none⟩=false) :
  Calls Tryz.prog 223 #[.pointer (some ⟨b,0,none⟩)] w fun e w'=>e=.returned (.tuple #[])/\w'=w.setCell ⟨b,0,none⟩ (.pointer (some ⟨b,0,none⟩)):=by
 obtain⟨j,hj,hjs⟩:=yar.1 (show(Tryz.prog.info? 196).map (·.size)=some 2 by kernel_rfl);have hc:Tryz.prog.cellsOf 196=2:=by kernel_rfl
 have hlie:liesAt Tryz.prog Tryz.prog.depth 196 (n / Tryz.prog.cellsOf 196) 0 196 1=true:=by
  obtain⟨k,hk⟩:∃k,n / Tryz.prog.cellsOf 196=k+1:=⟨n / Tryz.prog.cellsOf 196-1,by grind⟩;rw[hk];kernel_rfl
 go_enter Tryz.func223,Tryz.ntmps223
 go_wp2
 rw[Lib.run_to_unsafe w ⟨b,0,none⟩ Tryz.underlying194 Tryz.underlying261 hj (by omega) hsh (show 0<n by omega)];simp only[Result.andThen];rw[Oper.upon_value];go_wp2;rw[run_callFunc_extern Tryz.func238 (by kernel_rfl) (by kernel_rfl) (by kernel_rfl) (e:=Extern.AbiNoEscape.same) (by kernel_rfl)];rw[Lib.run_noEscape];simp only[Result.andThen];rw[Oper.upon_value];go_wp2;rw[Lib.run_from_unsafe w ⟨b,0,none⟩ Tryz.underlying261 Tryz.underlying194 hj hsh hlie];simp only[Result.andThen];rw[Oper.upon_value];go_wp2
 go_end0
 simp_all
end Go.Am
