/- Seat 26: copyCheck of a builder at the head of format.writer. -/
import Derived.KernelRfl
import Derived.Test.YthibiocejpbmgaaGreatDoorProg
import Derived.Test.YthibiocejpbmgaaGreatDoorA06
set_option linter.all false
noncomputable section
namespace Go.Am
open Go Go.Shelf Go.RowKit Go.Proofs
set_option maxHeartbeats 1000000 in
set_option maxRecDepth 100000 in
def YK(b:Nat)(w:World)(h0:w.cell? ⟨b,0,none⟩=some (.pointer (some ⟨b,0,none⟩))) :
  Calls Tryz.prog 144 #[.pointer (some ⟨b,0,none⟩)] w fun e w'=>e=.returned (.tuple #[])/\w'=w:=by
 obtain⟨j,hj,hjs⟩:=yar.1 (show(Tryz.prog.info? 144).map (·.size)=some 2 by kernel_rfl)
 go_enter Tryz.func144,Tryz.ntmps144
 go_wp2
 rw[Lib.run_neq_ptr_same w _ Tryz.underlying141 hj];go_wp2
 go_end0
 exact⟨rfl,rfl⟩
set_option maxHeartbeats 1000000 in
set_option maxRecDepth 100000 in
def YM(b n:Nat)(w:World)(h0:w.cell? ⟨b,0,none⟩=some (.pointer none))(hsh:w.shape? b=some (146,n))(hn:2<n)(hfz:w.frozen? ⟨b,0,none⟩=false) :
  Calls Tryz.prog 144 #[.pointer (some ⟨b,0,none⟩)] w fun e w'=>e=.returned (.tuple #[])/\w'=w.setCell ⟨b,0,none⟩ (.pointer (some ⟨b,0,none⟩)):=by
 obtain⟨j,hj,hjs⟩:=yar.1 (show(Tryz.prog.info? 144).map (·.size)=some 2 by kernel_rfl);have hc:Tryz.prog.cellsOf 146=3:=by kernel_rfl
 have hlie:liesAt Tryz.prog Tryz.prog.depth 146 (n / Tryz.prog.cellsOf 146) 0 144 1=true:=by
  obtain⟨k,hk⟩:∃k,n / Tryz.prog.cellsOf 146=k+1:=⟨n / Tryz.prog.cellsOf 146-1,by rw[hc];omega⟩;rw[hk];kernel_rfl
 go_enter Tryz.func144,Tryz.ntmps144
 go_wp2
 rw[Lib.run_to_unsafe w ⟨b,0,none⟩ Tryz.underlying141 Tryz.underlying232 hj (by rw[hjs];decide) hsh (show 0<n by omega)];simp only[Result.andThen];rw[Oper.upon_value];go_wp2;rw[run_callFunc_extern Tryz.func174 (by kernel_rfl) (by kernel_rfl) (by kernel_rfl) (e:=Extern.AbiNoEscape.same) (by kernel_rfl)];rw[Lib.run_noEscape];simp only[Result.andThen];rw[Oper.upon_value];go_wp2;rw[Lib.run_from_unsafe w ⟨b,0,none⟩ Tryz.underlying232 Tryz.underlying141 hj hsh hlie];simp only[Result.andThen];rw[Oper.upon_value];go_wp2
 go_end0
 exact⟨rfl,rfl⟩
set_option maxHeartbeats 1000000 in
set_option maxRecDepth 100000 in
def YL(b n:Nat)(w:World)(h0:w.cell? ⟨b,0,none⟩=some (.pointer none))(hsh:w.shape? b=some (144,n))(hn:1<n)(hfz:w.frozen? ⟨b,0,none⟩=false) :
  Calls Tryz.prog 144 #[.pointer (some ⟨b,0,none⟩)] w fun e w'=>e=.returned (.tuple #[])/\w'=w.setCell ⟨b,0,none⟩ (.pointer (some ⟨b,0,none⟩)):=by
 obtain⟨j,hj,hjs⟩:=yar.1 (show(Tryz.prog.info? 144).map (·.size)=some 2 by kernel_rfl);have hc:Tryz.prog.cellsOf 144=2:=by kernel_rfl
 have hlie:liesAt Tryz.prog Tryz.prog.depth 144 (n / Tryz.prog.cellsOf 144) 0 144 1=true:=by
  obtain⟨k,hk⟩:∃k,n / Tryz.prog.cellsOf 144=k+1:=⟨n / Tryz.prog.cellsOf 144-1,by rw[hc];omega⟩;rw[hk];kernel_rfl
 go_enter Tryz.func144,Tryz.ntmps144
 go_wp2
 rw[Lib.run_to_unsafe w ⟨b,0,none⟩ Tryz.underlying141 Tryz.underlying232 hj (by rw[hjs];decide) hsh (show 0<n by omega)];simp only[Result.andThen];rw[Oper.upon_value];go_wp2;rw[run_callFunc_extern Tryz.func174 (by kernel_rfl) (by kernel_rfl) (by kernel_rfl) (e:=Extern.AbiNoEscape.same) (by kernel_rfl)];rw[Lib.run_noEscape];simp only[Result.andThen];rw[Oper.upon_value];go_wp2;rw[Lib.run_from_unsafe w ⟨b,0,none⟩ Tryz.underlying232 Tryz.underlying141 hj hsh hlie];simp only[Result.andThen];rw[Oper.upon_value];go_wp2
 go_end0
 exact⟨rfl,rfl⟩
end Go.Am
