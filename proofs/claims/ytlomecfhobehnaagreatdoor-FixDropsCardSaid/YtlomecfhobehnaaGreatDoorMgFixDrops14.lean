import Derived.Test.YtlomecfhobehnaaGreatDoorMgFixDrops11
set_option linter.all false
set_option maxRecDepth 100000
set_option maxHeartbeats 1000000
namespace Go.Proofs.YtlomecfhobehnaaGreatDoor
open Lib (hid)
section
open Go.RowKit
open Rd
def nP(wd o:Nat)(sg:Bool):Tm.Wd:=(if sg then [105]else [117])++(if wd=1 then [56]else if wd=2 then [49,54]else if wd=4 then [51,50]else [54,52])++(if wd=1 then []else if o=1 then [98,101]else [108,101])
theorem CT{w:Tm.Wd}(h:(Tm.kindOf w).isSome=true):nP (cW w).1 (cW w).2.1 (cW w).2.2=w∧((cW w).1=1∨(cW w).1=2∨(cW w).1=4∨(cW w).1=8)∧((cW w).2.1=0∨(cW w).2.1=1):=by
 have key:∀p∈Tm.bp,nP p.2.1 p.2.2.1 p.2.2.2=p.1∧(p.2.1=1∨p.2.1=2∨p.2.1=4∨p.2.1=8)∧(p.2.2.1=0∨p.2.2.1=1):=by decide
 unfold cW;unfold Tm.kindOf at h⊢;rw[Option.isSome_map]at h;obtain⟨p,hp⟩:=Option.isSome_iff_exists.1 h;have h1:=List.mem_of_find?_eq_some hp;have h2:=List.find?_some hp;rw[beq_iff_eq]at h2;rw[hp];have:=key p h1;rw[← h2];exact this
theorem JD(g off o:Nat)(sg:Bool)(w:World)(ho:o=0∨o=1)(h4:w.cell? ⟨g,off+4,none⟩=some (.int .i64 1))(h5:w.cell? ⟨g,off+5,none⟩=some (.int .i64 (o:Nat)))(h6:w.cell? ⟨g,off+6,none⟩=some (.bool sg)):
  Calls Tryz.prog 109 #[.pointer (some ⟨g,off,none⟩)] w fun e w'=>e= .returned (.string (aa (nP 1 o sg)))∧w'=w:=by
 have hix:∀V:World,(Instr.index 224 (.agg #[.string {data:= #[]},.string {data:= #[56]},.string {data:= #[49,54]},.string {data:= #[]},.string {data:= #[51,50]},.string {data:= #[]},.string {data:= #[]},.string {data:= #[]},.string {data:= #[54,52]}]) (.int .i64 1)).run Tryz.prog V= .ok (.string {data:= #[56]}) V:=fun V=>by kernel_rfl
 rcases ho with rfl|rfl <;> cases sg <;>
 ·go_enter Tryz.func109,Tryz.ntmps109;go_wp2_with fail;go_ret;exact⟨rfl,rfl⟩
theorem JE(g off o:Nat)(sg:Bool)(w:World)(ho:o=0∨o=1)(h4:w.cell? ⟨g,off+4,none⟩=some (.int .i64 2))(h5:w.cell? ⟨g,off+5,none⟩=some (.int .i64 (o:Nat)))(h6:w.cell? ⟨g,off+6,none⟩=some (.bool sg)):
  Calls Tryz.prog 109 #[.pointer (some ⟨g,off,none⟩)] w fun e w'=>e= .returned (.string (aa (nP 2 o sg)))∧w'=w:=by
 have hix:∀V:World,(Instr.index 224 (.agg #[.string {data:= #[]},.string {data:= #[56]},.string {data:= #[49,54]},.string {data:= #[]},.string {data:= #[51,50]},.string {data:= #[]},.string {data:= #[]},.string {data:= #[]},.string {data:= #[54,52]}]) (.int .i64 2)).run Tryz.prog V= .ok (.string {data:= #[49,54]}) V:=fun V=>by kernel_rfl
 rcases ho with rfl|rfl <;> cases sg <;>
 ·go_enter Tryz.func109,Tryz.ntmps109;go_wp2_with fail;go_ret;exact⟨rfl,rfl⟩
theorem JF(g off o:Nat)(sg:Bool)(w:World)(ho:o=0∨o=1)(h4:w.cell? ⟨g,off+4,none⟩=some (.int .i64 4))(h5:w.cell? ⟨g,off+5,none⟩=some (.int .i64 (o:Nat)))(h6:w.cell? ⟨g,off+6,none⟩=some (.bool sg)):
  Calls Tryz.prog 109 #[.pointer (some ⟨g,off,none⟩)] w fun e w'=>e= .returned (.string (aa (nP 4 o sg)))∧w'=w:=by
 have hix:∀V:World,(Instr.index 224 (.agg #[.string {data:= #[]},.string {data:= #[56]},.string {data:= #[49,54]},.string {data:= #[]},.string {data:= #[51,50]},.string {data:= #[]},.string {data:= #[]},.string {data:= #[]},.string {data:= #[54,52]}]) (.int .i64 4)).run Tryz.prog V= .ok (.string {data:= #[51,50]}) V:=fun V=>by kernel_rfl
 rcases ho with rfl|rfl <;> cases sg <;>
 ·go_enter Tryz.func109,Tryz.ntmps109;go_wp2_with fail;go_ret;exact⟨rfl,rfl⟩
theorem JG(g off o:Nat)(sg:Bool)(w:World)(ho:o=0∨o=1)(h4:w.cell? ⟨g,off+4,none⟩=some (.int .i64 8))(h5:w.cell? ⟨g,off+5,none⟩=some (.int .i64 (o:Nat)))(h6:w.cell? ⟨g,off+6,none⟩=some (.bool sg)):
  Calls Tryz.prog 109 #[.pointer (some ⟨g,off,none⟩)] w fun e w'=>e= .returned (.string (aa (nP 8 o sg)))∧w'=w:=by
 have hix:∀V:World,(Instr.index 224 (.agg #[.string {data:= #[]},.string {data:= #[56]},.string {data:= #[49,54]},.string {data:= #[]},.string {data:= #[51,50]},.string {data:= #[]},.string {data:= #[]},.string {data:= #[]},.string {data:= #[54,52]}]) (.int .i64 8)).run Tryz.prog V= .ok (.string {data:= #[54,52]}) V:=fun V=>by kernel_rfl
 rcases ho with rfl|rfl <;> cases sg <;>
 ·go_enter Tryz.func109,Tryz.ntmps109;go_wp2_with fail;go_ret;exact⟨rfl,rfl⟩
theorem iy(g off:Nat)(s:Tm.Wd)(w:World)(hk:(Tm.kindOf s).isSome=true)(h4:w.cell? ⟨g,off+4,none⟩=some (.int .i64 ((cW s).1:Nat)))(h5:w.cell? ⟨g,off+5,none⟩=some (.int .i64 ((cW s).2.1:Nat)))(h6:w.cell? ⟨g,off+6,none⟩=some (.bool (cW s).2.2)):
  Calls Tryz.prog 109 #[.pointer (some ⟨g,off,none⟩)] w fun e w'=>e= .returned (.string (aa s))∧w'=w:=by
 obtain⟨h1,h2,h3⟩:=CT hk;rw[← h1]
 revert h1 h2 h3 h4 h5 h6
 obtain⟨a,b,c⟩:=cW s;intro h4 h5 h6 _ h2 h3;rcases h2 with h2|h2|h2|h2 <;> simp only[]at h2 <;> subst h2
 ·exact JD g off b c w h3 h4 h5 h6
 ·exact JE g off b c w h3 h4 h5 h6
 ·exact JF g off b c w h3 h4 h5 h6
 ·exact JG g off b c w h3 h4 h5 h6
end
end Go.Proofs.YtlomecfhobehnaaGreatDoor
