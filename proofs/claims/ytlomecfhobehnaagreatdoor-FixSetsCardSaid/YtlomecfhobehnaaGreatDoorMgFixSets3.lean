import Derived.Stop.Asserts
import Derived.RowKitTokens
import Derived.Test.YtlomecfhobehnaaGreatDoorMgFixSets2
set_option linter.unusedVariables false
set_option linter.unusedSimpArgs false
set_option maxRecDepth 100000
set_option maxHeartbeats 4000000
namespace Go.Proofs.YtlomecfhobehnaaGreatDoor
open Lib (hid)
section
open Go.RowKit Go.Extern.Stop Go.Stop Go.Extern
abbrev hdl(t:Nat):Value:= .pointer (some ⟨4,t,none⟩)
def eS(w:World):Prop:=w.cell? ⟨0,0,none⟩=some (.iface 175 (.agg #[hdl 30]))
namespace ErrAs
theorem CL(t:Addr)(w:World):(ReflectliteValue.unpack (.iface 86 (.pointer (some t)))).run Tryz.prog w
  = .ok (.agg #[hdl 86,.pointer (some ⟨w.heap.size,0,none⟩),.int .u64 150]) (w.alloc (.cells #[.pointer (some t)] 86)):=by kernel_rfl
theorem G3(a:Addr)(w:World):(ReflectliteValue.methodAny (ReflectliteValue.valueError "reflectlite.Value.Type" 0) (fun t _ _ _=>ReflectliteType.toType t) #[.agg #[hdl 86,.pointer (some a),.int .u64 150]]).run Tryz.prog w
  = .ok (.iface 175 (.agg #[hdl 86])) w:=by kernel_rfl
theorem G4(h:Value)(w:World):(Go.method 368 175 (.agg #[h]) "Kind").run Tryz.prog w= .ok (173,h) w:=by kernel_rfl
theorem G5(w:World):((ReflectliteType.abiMethod fun t=>(fun a:Nat=>Value.int IntKind.u8 (a:Int)) <$> Rtype.kind t) #[hdl 86]).run Tryz.prog w= .ok (.int .u8 22) w:=by kernel_rfl
theorem G6(w:World):((ReflectliteType.abiMethod fun t=>(fun a:Nat=>Value.int IntKind.u8 (a:Int)) <$> Rtype.kind t) #[hdl 48]).run Tryz.prog w= .ok (.int .u8 2) w:=by kernel_rfl
theorem rlm(z:Sem Value)(f:TypeId→Addr→Nat→Nat→Sem Value)(v:Value):
  ReflectliteValue.method z f #[v]=(do match ← ReflectliteValue.parts v with|none=>z|some (t,a,fl)=>f t a fl (fl % 32)):=rfl
theorem CM(a:Addr)(w:World):(ReflectliteValue.parts (.agg #[hdl 86,.pointer (some a),.int .u64 150])).run Tryz.prog w= .ok (some (86,a,150)) w:=by kernel_rfl
theorem Gg(a p:Addr)(W:World)(ha:W.cell? a=some (.pointer (some p))):
  (ReflectliteValue.method (ReflectliteValue.valueError "reflectlite.Value.IsNil" 0) ReflectliteValue.isNil #[.agg #[hdl 86,.pointer (some a),.int .u64 150]]).run Tryz.prog W= .ok (.bool false) W:=by
 rw[rlm];simp only[Sem.run_bind,CM,Result.andThen];simp[ReflectliteValue.isNil,loadVar,isAgg,underlying,Tryz.underlying86,ha,Result.andThen]
theorem G7(h:Value)(w:World):(Go.method 368 175 (.agg #[h]) "Elem").run Tryz.prog w= .ok (186,.agg #[h]) w:=by kernel_rfl
theorem uu(h:Value)(w:World):(Go.method 368 175 (.agg #[h]) "Implements").run Tryz.prog w= .ok (187,.agg #[h]) w:=by kernel_rfl
theorem qL(h:Value)(w:World):(Go.method 368 175 (.agg #[h]) "AssignableTo").run Tryz.prog w= .ok (184,.agg #[h]) w:=by kernel_rfl
theorem G8(w:World):(ReflectliteType.method ReflectliteType.elem #[.agg #[hdl 86]]).run Tryz.prog w= .ok (.iface 175 (.agg #[hdl 48])) w:=by kernel_rfl
theorem uv(w:World):(ReflectliteType.relation "Implements" ReflectliteType.implements_ #[.agg #[hdl 48],.iface 175 (.agg #[hdl 30])]).run Tryz.prog w= .ok (.bool true) w:=by kernel_rfl
theorem EB(v:Value)(w:World):(ReflectliteType.typeOf #[.iface 48 v]).run Tryz.prog w= .ok (.iface 175 (.agg #[hdl 48])) w:=by kernel_rfl
theorem uw(w:World):(ReflectliteType.relation "AssignableTo" ReflectliteType.assignableTo #[.agg #[hdl 48],.iface 175 (.agg #[hdl 48])]).run Tryz.prog w= .ok (.bool true) w:=by kernel_rfl
theorem CN(n:Int)(w:World):(ReflectliteValue.unpack (.iface 48 (.int .i64 n))).run Tryz.prog w
  = .ok (.agg #[hdl 48,.pointer (some ⟨w.heap.size,0,none⟩),.int .u64 130]) (w.alloc (.cells #[.int .i64 n] 48)):=by kernel_rfl
theorem EC(w:World):(Rtype.elem? 86).run Tryz.prog w= .ok (some 48) w:=by kernel_rfl
theorem mkE(p:Addr)(w:World):(ReflectliteValue.mk 48 p ReflectliteValue.flagAddr).run Tryz.prog w= .ok (.agg #[hdl 48,.pointer (some p),.int .u64 386]) w:=by kernel_rfl
theorem elemV(a p:Addr)(W:World)(ha:W.cell? a=some (.pointer (some p))):
  (ReflectliteValue.method (ReflectliteValue.valueError "reflectlite.Value.Elem" 0) ReflectliteValue.elem #[.agg #[hdl 86,.pointer (some a),.int .u64 150]]).run Tryz.prog W
   = .ok (.agg #[hdl 48,.pointer (some p),.int .u64 386]) W:=by
 rw[rlm];simp only[Sem.run_bind,CM,Result.andThen];simp[ReflectliteValue.elem,loadVar,isAgg,underlying,Tryz.underlying86,ha,Result.andThen,EC,mkE]
theorem rls(v x:Value):ReflectliteValue.set #[v,x]=(do
  let(some (dst,a,fl),some (src,b,_)):=(← ReflectliteValue.parts v,← ReflectliteValue.parts x)
   |unsupported (.noEntry "extern/(internal/reflectlite.Value).Set.zeroValue")
  if fl / ReflectliteValue.flagAddr % 2==0 then unsupported (.noEntry "extern/(internal/reflectlite.Value).Set.unaddressable")
  let val ← loadVar src b
  if ← Rtype.directlyAssignable dst src then storeVar dst a val
  else if ← Rtype.implements dst src then
   if(← Rtype.kind src)==20 then
    match val with
    | .nilIface=>unsupported (.noEntry "extern/reflectlite: a nil value of one interface type handed on as a value of another")
    |_=>storeVar dst a val
   else storeVar dst a (.iface src val)
  else panicString ("reflectlite.Set: value of type "++(← Rtype.spelt src)++ " is not assignable to type "++(← Rtype.spelt dst))
  pure (.tuple #[])):=rfl
theorem ED(a:Addr)(w:World):(ReflectliteValue.parts (.agg #[hdl 48,.pointer (some a),.int .u64 386])).run Tryz.prog w= .ok (some (48,a,386)) w:=by kernel_rfl
theorem Gh(a:Addr)(w:World):(ReflectliteValue.parts (.agg #[hdl 48,.pointer (some a),.int .u64 130])).run Tryz.prog w= .ok (some (48,a,130)) w:=by kernel_rfl
theorem EE(w:World):(Rtype.directlyAssignable 48 48).run Tryz.prog w= .ok true w:=by kernel_rfl
theorem Hm(ta b:Addr)(n:Int)(old:Value)(W:World)(hb:W.cell? b=some (.int .i64 n))(ht:W.cell? ta=some old)(hf:W.frozen? ta=false):
  (ReflectliteValue.set #[.agg #[hdl 48,.pointer (some ta),.int .u64 386],.agg #[hdl 48,.pointer (some b),.int .u64 130]]).run Tryz.prog W
   = .ok (.tuple #[]) (W.setCell ta (.int .i64 n)):=by
 rw[rls];simp only[Sem.run_bind,ED,Gh,Result.andThen];simp[ReflectliteValue.flagAddr,loadVar,isAgg,underlying,Tryz.underlying48,hb,Result.andThen,EE,storeVar,Value.cells,storeCells,Addr.add];rw[run_store Tryz.prog W ta _ _ (by rfl)];simp[ht,hf]
end ErrAs
theorem eS.below{B:Nat}{w w':World}(h:eS w)(hb:Below B w w')(hB:0 < B):eS w':=(hb.cell (p:=⟨0,0,none⟩) hB).trans h
theorem eS.lt{w:World}(h:eS w):0 < w.heap.size:=World.block_lt_of_cell? w _ h
abbrev asW(w:World)(t:Addr):World:=((w.alloc (.cells #[.pointer (some t)] 86)).alloc (.cells #[hdl 86,.pointer (some ⟨w.heap.size,0,none⟩),.int .u64 150] 137)).alloc (.cells #[hdl 86,.pointer (some ⟨w.heap.size,0,none⟩),.int .u64 150] 137)
theorem CO(n:Int)(t:Addr)(old:Value)(w:World)(hg:eS w)(ht0:w.cell? t=some old)(hf0:w.frozen? t=false):
  Calls Tryz.prog 46 #[.iface 48 (.int .i64 n),.iface 86 (.pointer (some t))] w fun ev w'=>ev= .returned (.bool true)∧w'=((asW w t).alloc (.cells #[.int .i64 n] 48)).setCell t (.int .i64 n):=by
 have hV:=@run_callFunc_extern Tryz.prog 77 _ (fun args=>ReflectliteValue.unpack (args.getD 0 (.tuple #[]))) Tryz.func77 (by kernel_rfl) (by kernel_rfl) (by kernel_rfl) (by kernel_rfl);have hT:=@run_callFunc_extern Tryz.prog 78 _ (ReflectliteValue.methodAny (ReflectliteValue.valueError "reflectlite.Value.Type" 0) (fun t _ _ _=>ReflectliteType.toType t)) Tryz.func78 (by kernel_rfl) (by kernel_rfl) (by kernel_rfl) (by kernel_rfl);have hN:=@run_callFunc_extern Tryz.prog 79 _ (ReflectliteValue.method (ReflectliteValue.valueError "reflectlite.Value.IsNil" 0) ReflectliteValue.isNil) Tryz.func79 (by kernel_rfl) (by kernel_rfl) (by kernel_rfl) (by kernel_rfl);have hK:=@run_callFunc_extern Tryz.prog 173 _ (ReflectliteType.abiMethod fun t=>do pure (.int .u8 (← Rtype.kind t))) Tryz.func173 (by kernel_rfl) (by kernel_rfl) (by kernel_rfl) (by kernel_rfl);have hE:=@run_callFunc_extern Tryz.prog 186 _ (ReflectliteType.method ReflectliteType.elem) Tryz.func186 (by kernel_rfl) (by kernel_rfl) (by kernel_rfl) (by kernel_rfl);have hI:=@run_callFunc_extern Tryz.prog 187 _ (ReflectliteType.relation "Implements" ReflectliteType.implements_) Tryz.func187 (by kernel_rfl) (by kernel_rfl) (by kernel_rfl) (by kernel_rfl);have hTO:=@run_callFunc_extern Tryz.prog 103 _ ReflectliteType.typeOf Tryz.func103 (by kernel_rfl) (by kernel_rfl) (by kernel_rfl) (by kernel_rfl);have hA:=@run_callFunc_extern Tryz.prog 184 _ (ReflectliteType.relation "AssignableTo" ReflectliteType.assignableTo) Tryz.func184 (by kernel_rfl) (by kernel_rfl) (by kernel_rfl) (by kernel_rfl);have hVE:=@run_callFunc_extern Tryz.prog 104 _ (ReflectliteValue.method (ReflectliteValue.valueError "reflectlite.Value.Elem" 0) ReflectliteValue.elem) Tryz.func104 (by kernel_rfl) (by kernel_rfl) (by kernel_rfl) (by kernel_rfl);have hVS:=@run_callFunc_extern Tryz.prog 105 _ ReflectliteValue.set Tryz.func105 (by kernel_rfl) (by kernel_rfl) (by kernel_rfl) (by kernel_rfl);have tO:=ErrAs.EB;have mA:=ErrAs.qL;have aE:=ErrAs.uw;have vE:=ErrAs.CN;have f6:=ErrAs.CL;have f7:=ErrAs.G3;have mK:=ErrAs.G4;have mE:=ErrAs.G7;have mI:=ErrAs.uu;have kP:=ErrAs.G5;have kE:=ErrAs.G6;have eP:=ErrAs.G8;have iE:=ErrAs.uv;have hlt:0 < w.heap.size:=hg.lt;have htl:t.block < w.heap.size:=by
  rcases Nat.lt_or_ge t.block w.heap.size with h|h
  ·exact h
  ·simp[World.cell?,Array.getElem?_eq_none h]at ht0
 have n8:=ErrAs.Gg ⟨w.heap.size,0,none⟩ t ((w.alloc (.cells #[.pointer (some t)] 86)).alloc (.cells #[hdl 86,.pointer (some ⟨w.heap.size,0,none⟩),.int .u64 150] 137)) (by simp);have hg2:((w.alloc (.cells #[.pointer (some t)] 86)).alloc (.cells #[hdl 86,.pointer (some ⟨w.heap.size,0,none⟩),.int .u64 150] 137)).cell? ⟨0,0,none⟩=some (.iface 175 (.agg #[hdl 30])):=by
  rw[World.cell?_alloc_lt _ _ ⟨0,0,none⟩ (by simp <;> omega),World.cell?_alloc_lt _ _ ⟨0,0,none⟩ hlt];exact hg
 have el:=ErrAs.elemV ⟨w.heap.size,0,none⟩ t (asW w t) (by rw[World.cell?_alloc_lt _ _ ⟨w.heap.size,0,none⟩ (by simp;omega)];simp);have st:=ErrAs.Hm t ⟨w.heap.size+1+1+1,0,none⟩ n old ((asW w t).alloc (.cells #[.int .i64 n] 48))
  (by rw[World.cell?_alloc_at _ _ _ _ (by simp)] <;> rfl)
  (by rw[World.cell?_alloc_lt _ _ t (by simp;omega),World.cell?_alloc_lt _ _ t (by simp;omega),World.cell?_alloc_lt _ _ t (by simp;omega),World.cell?_alloc_lt _ _ t htl];exact ht0)
  (by rw[World.frozen?_alloc_old _ _ t (by simp;omega),World.frozen?_alloc_old _ _ t (by simp;omega),World.frozen?_alloc_old _ _ t (by simp;omega),World.frozen?_alloc_old _ _ t (Nat.ne_of_lt htl)];exact hf0)
 go_enter Tryz.func46,Tryz.ntmps46
 go_wp2
 refine wp_loop_rounds 1 ?_;rw[rounds_succ]
 go_wp2
 go_ret;exact⟨rfl,rfl⟩
theorem AH(w:World)(t:Addr)(n:Int):Below w.heap.size w ((asW w t).alloc (.cells #[.int .i64 n] 48)):=
 ((((Y4 _ w).alloc (Z5 _) _).alloc (by simp) _).alloc (by simp;omega) _).alloc (by simp;omega) _
theorem xx(n:Int)(w:World)(hg:eS w):Calls Tryz.prog 21 #[.iface 48 (.int .i64 n)] w fun e w'=>e= .returned (.int .i64 n)∧Below w.heap.size w w':=by
 have has:=CO n ⟨w.heap.size,0,none⟩ (.int .i64 0) (w.alloc (.cells #[.int .i64 0] 48)) (hg.below ((Y4 _ w).alloc (Z5 _) _) hg.lt) (by simp) (by simp);have hb:=AH (w.alloc (.cells #[.int .i64 0] 48)) ⟨w.heap.size,0,none⟩ n;have hb2:=(((Y4 _ w).alloc (Z5 _) (.cells #[.int .i64 0] 48)).trans (hb.mono (by simp))).setCell (p:=⟨w.heap.size,0,none⟩) (Z5 _) (.int .i64 n);have hc:(((asW (w.alloc (.cells #[.int .i64 0] 48)) ⟨w.heap.size,0,none⟩).alloc (.cells #[.int .i64 n] 48)).setCell ⟨w.heap.size,0,none⟩ (.int .i64 n)).cell? ⟨w.heap.size,0,none⟩=some (.int .i64 n):=by
  refine World.cell?_setCell_same' _ _ _ ?_;rw[hb.cell (p:=⟨w.heap.size,0,none⟩) (by simp)];simp
 generalize((asW (w.alloc (.cells #[.int .i64 0] 48)) ⟨w.heap.size,0,none⟩).alloc (.cells #[.int .i64 n] 48)).setCell ⟨w.heap.size,0,none⟩ (.int .i64 n)=w9 at *
 have HAS:=hid has;clear has hb;go_enter Tryz.func21,Tryz.ntmps21;go_wp2_with fail;refine HAS.out.mono ?_;rintro e w1 ⟨rfl,rfl⟩;go_wp2_with fail;go_ret;exact⟨rfl,hb2⟩
end
section
open Go.RowKit
namespace Rd
open Ex
def IsX(w:World)(rb:Nat):Nat→X→Prop
 |b,.num a n=>rb < b∧ad w b 0 202 [.int .i64 1,.int .i64 (a:Nat),.int .i64 (n:Nat),.string ByteArray.empty,.string ByteArray.empty,.pointer none,.pointer none]
 |b,.name a s=>rb < b∧ad w b 0 202 [.int .i64 2,.int .i64 (a:Nat),.int .i64 0,.string (aa s),.string ByteArray.empty,.pointer none,.pointer none]
 |b,.bin a op l r=>∃bl br,rb < b∧ad w b 0 202 [.int .i64 3,.int .i64 (a:Nat),.int .i64 0,.string ByteArray.empty,.string (aa op),.pointer (some ⟨bl,0,none⟩),.pointer (some ⟨br,0,none⟩)]∧IsX w rb bl l∧IsX w rb br r
theorem IsX.grown{w w':World}{rb:Nat}(hg:w.grownBy w' (some rb)):∀(x:X) (b:Nat),IsX w rb b x→IsX w' rb b x
 | .num a n,b,h=>⟨h.1,h.2.of_heap (hg.block b h.2.lt (fun e=>by injection e with e;have:=h.1;omega))⟩
 | .name a s,b,h=>⟨h.1,h.2.of_heap (hg.block b h.2.lt (fun e=>by injection e with e;have:=h.1;omega))⟩
 | .bin a op l r,b,h=>by
  obtain⟨bl,br,h1,h2,h3,h4⟩:=h;exact⟨bl,br,h1,h2.of_heap (hg.block b h2.lt (fun e=>by injection e with e;omega)),IsX.grown hg l bl h3,IsX.grown hg r br h4⟩
def db(w:World)(rb:Nat):Prop:=2 < rb∧∀k,k < 3→∃(gk:Addr) (ck:Nat),w.cell? ⟨2,k,none⟩=some (.slice (some gk) (levels k).length ck)∧gk.block < rb∧∀j,j < (levels k).length→w.cell? (gk.add j)=some (.string (aa ((levels k).getD j [])))
structure Env(w:World)(rb:Nat):Prop where
 lv:db w rb
 er:eS w
 eb:0 < rb
theorem Env.grown{w w':World}{rb:Nat}(h:Env w rb)(hg:w.grownBy w' (some rb))(hrb:rb < w.heap.size):Env w' rb:=by
 have key:∀(p:Addr),p.block < rb→w'.cell? p=w.cell? p:=fun p hlt=>World.cell?_of_block (hg.block p.block (Nat.lt_trans hlt hrb) (fun e=>by injection e with e;omega))
 refine⟨⟨h.lv.1,fun k hk=> ?_⟩,(key ⟨_,0,none⟩ h.eb).trans h.er,h.eb⟩;obtain⟨gk,ck,h1,h2,h3⟩:=h.lv.2 k hk;exact⟨gk,ck,(key ⟨_,k,none⟩ h.lv.1).trans h1,h2,fun j hj=>(key (gk.add j) (by rw[Addr.cM];exact h2)).trans (h3 j hj)⟩
def gj(w:World)(rb E:Nat)(o:Ex.Out)(e:Ending)(w':World):Prop:=match o with
 | .ok x R=>∃b,e= .returned (.pointer (some ⟨b,0,none⟩))∧IsX w' rb b x∧Rdr w' rb R E∧w.grownBy w' (some rb)
 | .bad en p=>∃g,e=aC g∧ad w' g 0 122 [.int .i64 (en:Nat),.int .i64 (p:Nat)]∧w.heap.size≤g∧w.grownBy w' (some rb)
def mB(rb E k d:Nat)(T:List Tok)(o:Ex.Out):Prop:=∀w,Env w rb→Rdr w rb T E→Calls Tryz.prog 138 #[.pointer (some ⟨rb,0,none⟩),.int .i64 (k:Nat),.int .i64 (d:Nat)] w (gj w rb E o)
def mC(rb E d:Nat)(T:List Tok)(o:Ex.Out):Prop:=∀w,Env w rb→Rdr w rb T E→Calls Tryz.prog 152 #[.pointer (some ⟨rb,0,none⟩),.int .i64 (d:Nat)] w (gj w rb E o)
def rp(rb E d:Nat)(T:List Tok)(o:Ex.Out):Prop:=∀w,Env w rb→Rdr w rb T E→Calls Tryz.prog 113 #[.pointer (some ⟨rb,0,none⟩),.int .i64 (d:Nat)] w (gj w rb E o)
end Rd
open Rd
open Ex (X)
theorem sP(rb E d:Nat)(T:List Rd.Tok)(x:X)(R:List Rd.Tok)(h:mB rb E 0 d T (.ok x R)):rp rb E d T (.ok x R):=by
 intro w henv hr;have H:=hid (h w henv hr);clear h henv hr;go_enter Tryz.func113,Tryz.ntmps113;go_wp2_with fail;refine H.out.mono ?_;rintro e w1 ⟨b,rfl,h1⟩;go_wp2_with fail;go_ret;exact⟨b,rfl,h1⟩
theorem ux(rb E d:Nat)(T:List Rd.Tok)(en p:Nat)(h:mB rb E 0 d T (.bad en p)):rp rb E d T (.bad en p):=by
 intro w henv hr;have h1:=h w henv hr;unfold gj aC at h1⊢;have H:=hid h1;clear h h1 henv hr;go_enter Tryz.func113,Tryz.ntmps113;go_wp2_with fail;refine H.out.mono ?_;rintro e w1 ⟨g,rfl,h1⟩;go_wp2_with fail;exact⟨rfl,g,rfl,h1⟩
theorem AI(rb E d:Nat)(t u:Rd.Tok)(T T':List Rd.Tok)(x:X)(ht:t.1=[40])(hd:d < 8)(hC:rp rb E (d+1) T (.ok x (u::T')))(hu:u.1=[41]):mC rb E d (t::T) (.ok x T'):=by
 intro w henv hr;have HA:=hid (bS rb (t::T) E w hr);have hT:=ez rb t T E w hr (by rw[ht];simp);rw[ht]at hT;have HT:=hid hT;have HE:=hid henv;have HL:=hid hr.lt;have hC2:∀w,Env w rb→Rdr w rb T E→Calls Tryz.prog 113 #[.pointer (some ⟨rb,0,none⟩),.int .i64 ((d:Int)+1)] w (gj w rb E (.ok x (u::T'))):=hC;have HC:=hid hC2;have HM:Hid (∀w,Rdr w rb (u::T') E→Calls Tryz.prog 53 #[.pointer (some ⟨rb,0,none⟩),.string (aa [41])] w fun e w'=>e= .returned (.tuple #[])∧Rdr w' rb T' E∧w.grownBy w' (some rb)):=hid fun w h=>by
  have:=oR rb u T' E w h (by rw[hu];simp);rw[hu]at this;exact this
 have d1:((d:Int)==8)=false:=by rw[Z8];omega
 generalize Ex.dP E (t::T)=at_ at *
 clear hT hr henv hC hC2 ht hu;go_enter Tryz.func152,Tryz.ntmps152;go_wp2_with fail;refine HA.out.mono ?_;rintro e w0 ⟨rfl,rfl⟩;go_wp2_with fail;refine HT.out.mono ?_;rintro e w1 ⟨rfl,hr1,hg1⟩;have HR1:=hid hr1;have HG1:=hid hg1;clear hr1 hg1;go_wp2_with fail;refine(HC.out w1 (HE.out.grown HG1.out HL.out) HR1.out).mono ?_;rintro e w2 ⟨b,rfl,hx2,hr2,hg2⟩;have HX2:=hid hx2;have HR2:=hid hr2;have HG2:=hid (ah HG1.out hg2);clear hx2 hr2 hg2;go_wp2_with fail;refine(HM.out w2 HR2.out).mono ?_;rintro e w3 ⟨rfl,hr3,hg3⟩;have HR3:=hid hr3;have HG3:=hid (ah HG2.out hg3);have HX3:=hid (IsX.grown hg3 x b HX2.out);clear hr3 hg3;go_wp2_with fail;go_ret;exact⟨b,rfl,HX3.out,HR3.out,HG3.out⟩
theorem qM(rb E d:Nat)(t:Rd.Tok)(T T':List Rd.Tok)(x:X)(ht:t.1=[40])(hd:d < 8)(hC:rp rb E (d+1) T (.ok x T'))(hu:∀u T'',T'=u::T''→u.1≠[41]):mC rb E d (t::T) (.bad 3 (Ex.dP E T')):=by
 intro w henv hr;have HA:=hid (bS rb (t::T) E w hr);have hT:=ez rb t T E w hr (by rw[ht];simp);rw[ht]at hT;have HT:=hid hT;have HE:=hid henv;have HL:=hid hr.lt;have hC2:∀w,Env w rb→Rdr w rb T E→Calls Tryz.prog 113 #[.pointer (some ⟨rb,0,none⟩),.int .i64 ((d:Int)+1)] w (gj w rb E (.ok x T')):=hC;have HC:=hid hC2;have hM:=fun w h=>zv rb T' E [41] w h (by simp) (by
  cases T' with
  |nil=>simp[ak]
  |cons u T''=>exact hu u T'' rfl)
 unfold aC at hM;have HM:=hid hM;have d1:((d:Int)==8)=false:=by rw[Z8];omega
 unfold gj aC;generalize Ex.dP E (t::T)=at_ at *
 generalize Ex.dP E T'=at2 at *
 clear hT hr henv hC hC2 hM ht hu;go_enter Tryz.func152,Tryz.ntmps152;go_wp2_with fail;refine HA.out.mono ?_;rintro e w0 ⟨rfl,rfl⟩;go_wp2_with fail;refine HT.out.mono ?_;rintro e w1 ⟨rfl,hr1,hg1⟩;have HR1:=hid hr1;have HG1:=hid hg1;clear hr1 hg1;go_wp2_with fail;refine(HC.out w1 (HE.out.grown HG1.out HL.out) HR1.out).mono ?_;rintro e w2 ⟨b,rfl,hx2,hr2,hg2⟩;have HR2:=hid hr2;have HG2:=hid (ah HG1.out hg2);clear hx2 hr2 hg2;go_wp2_with fail;refine(HM.out w2 HR2.out).mono ?_;rintro e w3 ⟨rfl,hr3,hb3⟩;have HR3:=hid hr3;have HG3:=hid (ah HG2.out (ar hb3 _));clear hr3 hb3;go_wp2_with fail;exact⟨rfl,_,rfl,HR3.out,HG2.out.size,HG3.out⟩
theorem sQ(rb E d:Nat)(t:Rd.Tok)(T:List Rd.Tok)(en p:Nat)(ht:t.1=[40])(hd:d < 8)(hC:rp rb E (d+1) T (.bad en p)):mC rb E d (t::T) (.bad en p):=by
 intro w henv hr;have HA:=hid (bS rb (t::T) E w hr);have hT:=ez rb t T E w hr (by rw[ht];simp);rw[ht]at hT;have HT:=hid hT;have HE:=hid henv;have HL:=hid hr.lt;have hC2:∀w,Env w rb→Rdr w rb T E→Calls Tryz.prog 113 #[.pointer (some ⟨rb,0,none⟩),.int .i64 ((d:Int)+1)] w (gj w rb E (.bad en p)):=hC;unfold gj aC at hC2⊢;have HC:=hid hC2;have d1:((d:Int)==8)=false:=by rw[Z8];omega
 generalize Ex.dP E (t::T)=at_ at *
 clear hT hr henv hC hC2 ht;go_enter Tryz.func152,Tryz.ntmps152;go_wp2_with fail;refine HA.out.mono ?_;rintro e w0 ⟨rfl,rfl⟩;go_wp2_with fail;refine HT.out.mono ?_;rintro e w1 ⟨rfl,hr1,hg1⟩;have HR1:=hid hr1;have HG1:=hid hg1;clear hr1 hg1;go_wp2_with fail;refine(HC.out w1 (HE.out.grown HG1.out HL.out) HR1.out).mono ?_;rintro e w2 ⟨g,rfl,h1,h2,h3⟩;have H1:=hid h1;have H2:=hid (Nat.le_trans HG1.out.size h2);have HG2:=hid (ah HG1.out h3);clear h1 h2 h3;go_wp2_with fail;exact⟨rfl,g,rfl,H1.out,H2.out,HG2.out⟩
theorem CP(rb E:Nat)(t:Rd.Tok)(T:List Rd.Tok)(ht:t.1=[40]):mC rb E 8 (t::T) (.bad 4 t.2):=by
 intro w henv hr;have HA:=hid (bS rb (t::T) E w hr);have hT:=ez rb t T E w hr (by rw[ht];simp);rw[ht]at hT;have HT:=hid hT;have hat:Ex.dP E (t::T)=t.2:=rfl;rw[hat]at HA;have hF:=fun w=>dw rb 4 t.2 w
 unfold aC at hF;unfold gj aC;have HF:=hid hF;generalize t.2=at_ at *
 clear hT hr henv ht hF hat;go_enter Tryz.func152,Tryz.ntmps152;go_wp2_with fail;refine HA.out.mono ?_;rintro e w0 ⟨rfl,rfl⟩;go_wp2_with fail;refine HT.out.mono ?_;rintro e w1 ⟨rfl,hr1,hg1⟩;have HR1:=hid hr1;have HG1:=hid hg1;clear hr1 hg1;go_wp2_with fail;refine(HF.out w1).mono ?_;rintro e w2 ⟨rfl,h1,h2⟩;have H1:=hid h1;have HG2:=hid (ah HG1.out (ar h2 _));clear h1 h2;go_wp2_with fail;exact⟨rfl,_,rfl,H1.out,HG1.out.size,HG2.out⟩
theorem gT(c:UInt8)(r:List UInt8)(w:World):Calls Tryz.prog 86 #[.string (aa (c::r))] w fun e w'=>e= .returned (.bool (Lex.letter c.toNat))∧w=w':=by
 have HL:=hid (fun w=>oO c.toNat (UInt8.toNat_lt c) w);have s0:∀h:0 < (aa (c::r)).size,((aa (c::r))[0]'h).toNat=c.toNat:=fun h=>rfl
 have l0:(aa (c::r)).size=r.length+1:=by rw[aq,Z6]
 have m0:(aa (c::r)).toList.isEmpty=false:=by rw[gw];rfl
 have hp:(0:Int) < (r.length:Int)+1:=by omega
 generalize Lex.letter c.toNat=b at *
 generalize c.toNat=x at *
 generalize aa (c::r)=S at *
 go_enter Tryz.func86,Tryz.ntmps86;go_wp2_with fail;refine(HL.out _).mono ?_;rintro e w1 ⟨rfl,rfl⟩;go_wp2_with fail;go_ret;exact⟨rfl,rfl⟩
end
section
open Go.RowKit
open Rd
open Ex (X)
theorem oY{c:UInt8}(h:Lex.letter c.toNat=true):c≠40:=by
 rintro rfl;exact absurd h (by decide)
theorem rq{c:UInt8}(h:Lex.digit c.toNat=true):c≠40∧Lex.letter c.toNat=false∧c.toNat≠45∧48≤c.toNat∧c.toNat≤57:=by
 have h2:48≤c.toNat∧c.toNat≤57:=of_decide_eq_true h;refine⟨fun e=> ?_,?_,by omega,h2.1,h2.2⟩
 ·subst e;exact absurd h2 (by decide)
 ·unfold Lex.letter;simp;omega
theorem jI{c:UInt8}{r:List UInt8}(h:c≠40):(c::r)≠[40]:=fun e=>h (List.cons.inj e).1
theorem CQ(rb E d:Nat)(t:Rd.Tok)(T:List Rd.Tok)(c:UInt8)(r:List UInt8)(ht:t.1=c::r)(hl:Lex.letter c.toNat=true)(h12:t.1.length≤12):mC rb E d (t::T) (.ok (.name t.2 t.1) T):=by
 intro w henv hr;have HA:=hid (bS rb (t::T) E w hr);have HT:=hid (dn rb (t::T) E [40] w hr (by simp) (by show t.1≠[40];rw[ht];exact jI (oY hl)));have HX:=hid (bG rb (t::T) E w hr);have HP:=hid (dX rb t T E w hr (by rw[ht];simp));have hat:Ex.dP E (t::T)=t.2:=rfl;have htx:ak (t::T)=t.1:=rfl;rw[hat]at HA;rw[htx]at HX;have HL:=hid hr.lt;have hnm:=fun w=>gT c r w
 rw[hl,← ht]at hnm;have HN:=hid hnm;have d12:decide ((12:Int) < (t.1.length:Int))=false:=Y9 (by omega);have d12n:decide (12 < t.1.length)=false:=Y9 (by omega);generalize t.2=at_ at *
 generalize t.1=s at *
 clear hr henv ht hat htx hnm hl;go_enter Tryz.func152,Tryz.ntmps152;go_wp2_with fail;refine HA.out.mono ?_;rintro e w0 ⟨rfl,rfl⟩;go_wp2_with fail;refine HT.out.mono ?_;rintro e w0 ⟨rfl,rfl⟩;go_wp2_with fail;refine HX.out.mono ?_;rintro e w0 ⟨rfl,rfl⟩;go_wp2_with fail;refine(HN.out _).mono ?_;rintro e w1 ⟨rfl,rfl⟩;go_wp2_with fail;refine HP.out.mono ?_;rintro e w1 ⟨rfl,hr1,hg1⟩;have hrow:=ad.new w1 202 #[.int .i64 2,.int .i64 (at_:Nat),.int .i64 0,.string (aa s),.string ByteArray.empty,.pointer none,.pointer none];have hb:=(Y4 w1.heap.size w1).alloc (Z5 _) (.cells #[.int .i64 2,.int .i64 (at_:Nat),.int .i64 0,.string (aa s),.string ByteArray.empty,.pointer none,.pointer none] 202);have HF:Hid (IsX (w1.alloc (.cells #[.int .i64 2,.int .i64 (at_:Nat),.int .i64 0,.string (aa s),.string ByteArray.empty,.pointer none,.pointer none] 202)) rb w1.heap.size (.name at_ s)∧Rdr (w1.alloc (.cells #[.int .i64 2,.int .i64 (at_:Nat),.int .i64 0,.string (aa s),.string ByteArray.empty,.pointer none,.pointer none] 202)) rb T E∧w0.grownBy (w1.alloc (.cells #[.int .i64 2,.int .i64 (at_:Nat),.int .i64 0,.string (aa s),.string ByteArray.empty,.pointer none,.pointer none] 202)) (some rb)):=
  hid ⟨⟨Nat.lt_of_lt_of_le HL.out hg1.size,hrow⟩,hr1.below hb,ah hg1 (ar hb _)⟩
 clear hr1 hg1 hrow hb;go_wp2_with fail;go_ret;exact⟨_,rfl,HF.out⟩
theorem sR(rb E d:Nat)(t:Rd.Tok)(T:List Rd.Tok)(c:UInt8)(r:List UInt8)(ht:t.1=c::r)(hl:Lex.letter c.toNat=true)(h12:12 < t.1.length):mC rb E d (t::T) (.bad 4 t.2):=by
 intro w henv hr;have HA:=hid (bS rb (t::T) E w hr);have HT:=hid (dn rb (t::T) E [40] w hr (by simp) (by show t.1≠[40];rw[ht];exact jI (oY hl)));have HX:=hid (bG rb (t::T) E w hr);have HP:=hid (dX rb t T E w hr (by rw[ht];simp));have hat:Ex.dP E (t::T)=t.2:=rfl;have htx:ak (t::T)=t.1:=rfl;rw[hat]at HA;rw[htx]at HX;have hnm:=fun w=>gT c r w
 rw[hl,← ht]at hnm;have HN:=hid hnm;have hF:=fun w=>dw rb 4 t.2 w
 unfold aC at hF;unfold gj aC;have HF:=hid hF;have d12:decide ((12:Int) < (t.1.length:Int))=true:=Z9 (by omega);have d12n:decide (12 < t.1.length)=true:=Z9 (by omega);generalize t.2=at_ at *
 generalize t.1=s at *
 clear hr henv ht hat htx hnm hl hF h12;go_enter Tryz.func152,Tryz.ntmps152;go_wp2_with fail;refine HA.out.mono ?_;rintro e w0 ⟨rfl,rfl⟩;go_wp2_with fail;refine HT.out.mono ?_;rintro e w0 ⟨rfl,rfl⟩;go_wp2_with fail;refine HX.out.mono ?_;rintro e w0 ⟨rfl,rfl⟩;go_wp2_with fail;refine(HN.out _).mono ?_;rintro e w1 ⟨rfl,rfl⟩;go_wp2_with fail;refine HP.out.mono ?_;rintro e w1 ⟨rfl,hr1,hg1⟩;have HG1:=hid hg1;clear hr1 hg1;go_wp2_with fail;refine(HF.out _).mono ?_;rintro e w2 ⟨rfl,h1,h2⟩;have H1:=hid h1;have HG2:=hid (ah HG1.out (ar h2 (some rb)));clear h1 h2;go_wp2_with fail;exact⟨rfl,_,rfl,H1.out,HG1.out.size,HG2.out⟩
theorem CR(w:World):Calls Tryz.prog 86 #[.string (aa [])] w fun e w'=>e= .returned (.bool false)∧w=w':=by
 go_enter Tryz.func86,Tryz.ntmps86;go_wp2_with fail;go_ret;exact⟨rfl,rfl⟩
theorem CS(rb E d:Nat):mC rb E d [] (.bad 3 E):=by
 intro w henv hr;have HA:=hid (bS rb [] E w hr);have HT:=hid (dn rb [] E [40] w hr (by simp) (by simp[ak]));have HX:=hid (bG rb [] E w hr);have hat:Ex.dP E []=E:=rfl;have htx:ak []=[]:=rfl;rw[hat]at HA;rw[htx]at HX;have HN:=hid (fun w=>CR w);have hF:=fun w=>dw rb 3 E w
 unfold aC at hF;unfold gj aC;have HF:=hid hF;clear hr henv hat htx hF;go_enter Tryz.func152,Tryz.ntmps152;go_wp2_with fail;refine HA.out.mono ?_;rintro e w0 ⟨rfl,rfl⟩;go_wp2_with fail;refine HT.out.mono ?_;rintro e w0 ⟨rfl,rfl⟩;go_wp2_with fail;refine HX.out.mono ?_;rintro e w0 ⟨rfl,rfl⟩;go_wp2_with fail;refine(HN.out _).mono ?_;rintro e w1 ⟨rfl,rfl⟩;go_wp2_with fail;refine(HF.out _).mono ?_;rintro e w2 ⟨rfl,h1,h2⟩;have H1:=hid h1;have HG2:=hid (ar h2 (some rb));clear h1 h2;go_wp2_with fail;exact⟨rfl,_,rfl,H1.out,Z5 _,HG2.out⟩
theorem CT(rb E d:Nat)(t:Rd.Tok)(T:List Rd.Tok)(c:UInt8)(r:List UInt8)(ht:t.1=c::r)(hl:Lex.letter c.toNat=false)(hd:Lex.digit c.toNat=false)(h40:t.1≠[40]):mC rb E d (t::T) (.bad 3 t.2):=by
 intro w henv hr;have HA:=hid (bS rb (t::T) E w hr);have HT:=hid (dn rb (t::T) E [40] w hr (by simp) h40);have HX:=hid (bG rb (t::T) E w hr);have hat:Ex.dP E (t::T)=t.2:=rfl;have htx:ak (t::T)=t.1:=rfl;rw[hat]at HA;rw[htx,ht]at HX;have hnm:=fun w=>gT c r w
 rw[hl]at hnm;have HN:=hid hnm;have hF:=fun w=>dw rb 3 t.2 w
 unfold aC at hF;unfold gj aC;have HF:=hid hF;have hemp:((c::r)==([]:List UInt8))=false:=rfl;have hemp2:(c::r).isEmpty=false:=rfl;have s0:∀h:0 < (aa (c::r)).size,((aa (c::r))[0]'h).toNat=c.toNat:=fun h=>rfl
 have l0:(aa (c::r)).size=r.length+1:=by rw[aq,Z6]
 have m0:(aa (c::r)).toList.isEmpty=false:=by rw[gw];rfl
 have hp:(0:Int) < (r.length:Int)+1:=by omega
 have hnd:¬(48≤c.toNat∧c.toNat≤57):=of_decide_eq_false hd;generalize t.2=at_ at *
 generalize c.toNat=x at *
 generalize aa (c::r)=S at *
 clear hr henv ht hat htx hnm hl hF hd h40
 by_cases h48:x < 48
 ·have e1:decide ((x:Int) < 48)=true:=Z9 (by omega);clear hnd;go_enter Tryz.func152,Tryz.ntmps152;go_wp2_with fail;refine HA.out.mono ?_;rintro e w0 ⟨rfl,rfl⟩;go_wp2_with fail;refine HT.out.mono ?_;rintro e w0 ⟨rfl,rfl⟩;go_wp2_with fail;refine HX.out.mono ?_;rintro e w0 ⟨rfl,rfl⟩;go_wp2_with fail;refine(HN.out _).mono ?_;rintro e w1 ⟨rfl,rfl⟩;go_wp2_with fail;refine(HF.out _).mono ?_;rintro e w2 ⟨rfl,h1,h2⟩;have H1:=hid h1;have HG2:=hid (ar h2 (some rb));clear h1 h2;go_wp2_with fail;exact⟨rfl,_,rfl,H1.out,Z5 _,HG2.out⟩
 ·have e1:decide ((x:Int) < 48)=false:=Y9 (by omega);have e2:decide ((57:Int) < (x:Int))=true:=Z9 (by omega);clear hnd;go_enter Tryz.func152,Tryz.ntmps152;go_wp2_with fail;refine HA.out.mono ?_;rintro e w0 ⟨rfl,rfl⟩;go_wp2_with fail;refine HT.out.mono ?_;rintro e w0 ⟨rfl,rfl⟩;go_wp2_with fail;refine HX.out.mono ?_;rintro e w0 ⟨rfl,rfl⟩;go_wp2_with fail;refine(HN.out _).mono ?_;rintro e w1 ⟨rfl,rfl⟩;go_wp2_with fail;refine(HF.out _).mono ?_;rintro e w2 ⟨rfl,h1,h2⟩;have H1:=hid h1;have HG2:=hid (ar h2 (some rb));clear h1 h2;go_wp2_with fail;exact⟨rfl,_,rfl,H1.out,Z5 _,HG2.out⟩
theorem one_num(rb E d:Nat)(t:Rd.Tok)(T:List Rd.Tok)(c:UInt8)(r:List UInt8)(n:Nat)(ht:t.1=c::r)(hd:Lex.digit c.toNat=true)(hnum:Num.numOf t.1= .inl n)(hlen:t.1.length≤100000):mC rb E d (t::T) (.ok (.num t.2 n) T):=by
 intro w henv hr;obtain⟨n40,nl,n45,n48,n57⟩:=rq hd;have HA:=hid (bS rb (t::T) E w hr);have HT:=hid (dn rb (t::T) E [40] w hr (by simp) (by show t.1≠[40];rw[ht];exact jI n40));have HX:=hid (bG rb (t::T) E w hr);have HP:=hid (dX rb t T E w hr (by rw[ht];simp));have hat:Ex.dP E (t::T)=t.2:=rfl;have htx:ak (t::T)=t.1:=rfl;rw[hat]at HA;rw[htx,ht]at HX;rw[ht]at HP;have hnm:=fun w=>gT c r w
 rw[nl]at hnm;have HN:=hid hnm;have HL:=hid hr.lt;have hnb:=fun w=>oX (c::r) w (by rw[ht]at hlen;exact hlen) (by simp) (by simpa using n45)
 rw[← ht,hnum,ht]at hnb;simp only[Num.oW]at hnb;have HNB:=hid hnb;have hemp:((c::r)==([]:List UInt8))=false:=rfl;have hemp2:(c::r).isEmpty=false:=rfl;have s0:∀h:0 < (aa (c::r)).size,((aa (c::r))[0]'h).toNat=c.toNat:=fun h=>rfl
 have l0:(aa (c::r)).size=r.length+1:=by rw[aq,Z6]
 have m0:(aa (c::r)).toList.isEmpty=false:=by rw[gw];rfl
 have hp:(0:Int) < (r.length:Int)+1:=by omega
 have e1:decide ((c.toNat:Int) < 48)=false:=Y9 (by omega);have e2:decide ((57:Int) < (c.toNat:Int))=false:=Y9 (by omega);generalize t.2=at_ at *
 generalize c.toNat=x at *
 generalize aa (c::r)=S at *
 clear hr henv hat htx hnm hd n40 nl n45 n48 n57 hnb hnum hlen ht;go_enter Tryz.func152,Tryz.ntmps152;go_wp2_with fail;refine HA.out.mono ?_;rintro e w0 ⟨rfl,rfl⟩;go_wp2_with fail;refine HT.out.mono ?_;rintro e w0 ⟨rfl,rfl⟩;go_wp2_with fail;refine HX.out.mono ?_;rintro e w0 ⟨rfl,rfl⟩;go_wp2_with fail;refine(HN.out _).mono ?_;rintro e w1 ⟨rfl,rfl⟩;go_wp2_with fail;refine HP.out.mono ?_;rintro e w1 ⟨rfl,hr1,hg1⟩;have HR1:=hid hr1;have HG1:=hid hg1;clear hr1 hg1;go_wp2_with fail;refine(HNB.out _).mono ?_;rintro e w2 ⟨rfl,hb2⟩;have hr2:=HR1.out.below hb2;have hg2:=ah HG1.out (ar hb2 (some rb));have hrow:=ad.new w2 202 #[.int .i64 1,.int .i64 (at_:Nat),.int .i64 (n:Nat),.string ByteArray.empty,.string ByteArray.empty,.pointer none,.pointer none];have hb:=(Y4 w2.heap.size w2).alloc (Z5 _) (.cells #[.int .i64 1,.int .i64 (at_:Nat),.int .i64 (n:Nat),.string ByteArray.empty,.string ByteArray.empty,.pointer none,.pointer none] 202);have HF:Hid (IsX (w2.alloc (.cells #[.int .i64 1,.int .i64 (at_:Nat),.int .i64 (n:Nat),.string ByteArray.empty,.string ByteArray.empty,.pointer none,.pointer none] 202)) rb w2.heap.size (.num at_ n)∧Rdr (w2.alloc (.cells #[.int .i64 1,.int .i64 (at_:Nat),.int .i64 (n:Nat),.string ByteArray.empty,.string ByteArray.empty,.pointer none,.pointer none] 202)) rb T E∧w0.grownBy (w2.alloc (.cells #[.int .i64 1,.int .i64 (at_:Nat),.int .i64 (n:Nat),.string ByteArray.empty,.string ByteArray.empty,.pointer none,.pointer none] 202)) (some rb)):=
  hid ⟨⟨Nat.lt_of_lt_of_le HL.out hg2.size,hrow⟩,hr2.below hb,ah hg2 (ar hb _)⟩
 clear hr2 hg2 hrow hb hb2;go_wp2_with fail;go_ret;exact⟨_,rfl,HF.out⟩
theorem xy(rb E d:Nat)(t:Rd.Tok)(T:List Rd.Tok)(c:UInt8)(r:List UInt8)(en:Nat)(ht:t.1=c::r)(hd:Lex.digit c.toNat=true)(hnum:Num.numOf t.1= .inr en)(hlen:t.1.length≤100000):mC rb E d (t::T) (.bad en t.2):=by
 intro w henv hr;obtain⟨n40,nl,n45,n48,n57⟩:=rq hd;have HA:=hid (bS rb (t::T) E w hr);have HT:=hid (dn rb (t::T) E [40] w hr (by simp) (by show t.1≠[40];rw[ht];exact jI n40));have HX:=hid (bG rb (t::T) E w hr);have HP:=hid (dX rb t T E w hr (by rw[ht];simp));have hat:Ex.dP E (t::T)=t.2:=rfl;have htx:ak (t::T)=t.1:=rfl;rw[hat]at HA;rw[htx,ht]at HX;rw[ht]at HP;have hnm:=fun w=>gT c r w
 rw[nl]at hnm;have HN:=hid hnm;have HL:=hid hr.lt;have hnb:=fun w=>oX (c::r) w (by rw[ht]at hlen;exact hlen) (by simp) (by simpa using n45)
 rw[← ht,hnum,ht]at hnb;simp only[Num.oW]at hnb;have HNB:=hid hnb;have hemp:((c::r)==([]:List UInt8))=false:=rfl;have hemp2:(c::r).isEmpty=false:=rfl;have s0:∀h:0 < (aa (c::r)).size,((aa (c::r))[0]'h).toNat=c.toNat:=fun h=>rfl
 have l0:(aa (c::r)).size=r.length+1:=by rw[aq,Z6]
 have m0:(aa (c::r)).toList.isEmpty=false:=by rw[gw];rfl
 have hp:(0:Int) < (r.length:Int)+1:=by omega
 have e1:decide ((c.toNat:Int) < 48)=false:=Y9 (by omega);have e2:decide ((57:Int) < (c.toNat:Int))=false:=Y9 (by omega);have hF:=fun w=>dw rb en t.2 w
 unfold aC at hF;unfold gj aC;have HF:=hid hF;have HE:=hid henv;have HTL:=hid (fun w hg=>xx (en:Int) w hg);generalize t.2=at_ at *
 generalize c.toNat=x at *
 generalize aa (c::r)=S at *
 clear hr henv hat htx hnm hd n40 nl n45 n48 n57 hnb hnum hlen ht hF;go_enter Tryz.func152,Tryz.ntmps152;go_wp2_with fail;refine HA.out.mono ?_;rintro e w0 ⟨rfl,rfl⟩;go_wp2_with fail;refine HT.out.mono ?_;rintro e w0 ⟨rfl,rfl⟩;go_wp2_with fail;refine HX.out.mono ?_;rintro e w0 ⟨rfl,rfl⟩;go_wp2_with fail;refine(HN.out _).mono ?_;rintro e w1 ⟨rfl,rfl⟩;go_wp2_with fail;refine HP.out.mono ?_;rintro e w1 ⟨rfl,hr1,hg1⟩;have HR1:=hid hr1;have HG1:=hid hg1;clear hr1 hg1;go_wp2_with fail;refine(HNB.out _).mono ?_;rintro e w2 ⟨rfl,hb2⟩;have HG2:=hid (ah HG1.out (ar hb2 (some rb)));clear hb2;go_wp2_with fail;refine(HTL.out _ (HE.out.grown HG2.out HL.out).er).mono ?_;rintro e w3 ⟨rfl,hb3⟩;have HG3:=hid (ah HG2.out (ar hb3 (some rb)));clear hb3;go_wp2_with fail;refine(HF.out _).mono ?_;rintro e w4 ⟨rfl,h1,h2⟩;have H1:=hid h1;have HG4:=hid (ah HG3.out (ar h2 (some rb)));clear h1 h2;go_wp2_with fail;exact⟨rfl,_,rfl,H1.out,HG3.out.size,HG4.out⟩
end
end Go.Proofs.YtlomecfhobehnaaGreatDoor
