/- Seat 30: copyCheck of a builder. -/
import Derived.KernelRfl
import Derived.Test.YtfmlbimokklmgaaGreatDoorProg
import Derived.Test.YtfmlbimokklmgaaGreatDoorF06
set_option linter.all false
noncomputable section
namespace Go.Am
open Go Go.Shelf Go.RowKit Go.Proofs
set_option maxHeartbeats 1000000 in
set_option maxRecDepth 100000 in
def YO(b:Nat)(w:World)(h0:w.cell? ⟨b,0,none⟩=some (.pointer (some ⟨b,0,none⟩))) :
  Calls Tryz.prog 82 #[.pointer (some ⟨b,0,none⟩)] w fun e w'=>e=.returned (.tuple #[])/\w'=w:=by
 obtain⟨j,hj,hjs⟩:=yar.1 (show(Tryz.prog.info? 110).map (·.size)=some 2 by kernel_rfl)
 go_enter Tryz.func82,Tryz.ntmps82
 go_wp2
 rw[Lib.run_neq_ptr_same w _ Tryz.underlying108 hj];go_wp2
 go_end0
 exact⟨rfl,rfl⟩
set_option maxHeartbeats 1000000 in
set_option maxRecDepth 100000 in
def YP(b n:Nat)(w:World)(h0:w.cell? ⟨b,0,none⟩=some (.pointer none))(hsh:w.shape? b=some (110,n))(hn:1<n)(hfz:w.frozen? ⟨b,0,none⟩=false) :
  Calls Tryz.prog 82 #[.pointer (some ⟨b,0,none⟩)] w fun e w'=>e=.returned (.tuple #[])/\w'=w.setCell ⟨b,0,none⟩ (.pointer (some ⟨b,0,none⟩)):=by
 obtain⟨j,hj,hjs⟩:=yar.1 (show(Tryz.prog.info? 110).map (·.size)=some 2 by kernel_rfl)
 have hc:Tryz.prog.cellsOf 110=2:=by kernel_rfl
 have hlie:liesAt Tryz.prog Tryz.prog.depth 110 (n / Tryz.prog.cellsOf 110) 0 110 1=true:=by
  obtain⟨k,hk⟩:∃k,n / Tryz.prog.cellsOf 110=k+1:=⟨n / Tryz.prog.cellsOf 110-1,by rw[hc];omega⟩
  rw[hk];kernel_rfl
 go_enter Tryz.func82,Tryz.ntmps82
 go_wp2
 rw[Lib.run_to_unsafe w ⟨b,0,none⟩ Tryz.underlying108 Tryz.underlying178 hj (by rw[hjs];decide) hsh (show 0<n by omega)]
 simp only[Result.andThen];rw[Oper.upon_value];go_wp2
 rw[run_callFunc_extern Tryz.func108 (by kernel_rfl) (by kernel_rfl) (by kernel_rfl) (e:=Extern.AbiNoEscape.same) (by kernel_rfl)]
 rw[Lib.run_noEscape];simp only[Result.andThen];rw[Oper.upon_value];go_wp2
 rw[Lib.run_from_unsafe w ⟨b,0,none⟩ Tryz.underlying178 Tryz.underlying108 hj hsh hlie];simp only[Result.andThen];rw[Oper.upon_value];go_wp2
 go_end0
 exact⟨rfl,rfl⟩
end Go.Am
