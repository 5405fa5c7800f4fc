import Derived.Test.YtlomecfhobehnaaGreatDoorMgFixSets32
set_option linter.unusedVariables false
set_option linter.unusedSimpArgs false
set_option maxRecDepth 100000
set_option maxHeartbeats 2000000
namespace Go.Proofs.YtlomecfhobehnaaGreatDoor
open Lib (hid)
section
namespace Fx
open Ly Tm
theorem vN{O:List Nat}:∀(j i:Nat) (v:Int) (l:Nds),i+j∈O→erO O i (dK j v l)=erO O i l
 |j,i,v,.nil,_=>by cases j <;> rfl
 |0,i,v,.cons a b c d e f g r,h=>by
  have h2:O.contains i=true:=by simpa using h
  simp only[dK,erO,h2,if_true]
 |j+1,i,v,.cons a b c d e f g r,h=>by
  simp only[dK,erO];rw[vN j (i+1) v r (by rw[show i+1+j=i+(j+1) by omega];exact h)]
theorem pZ(E:Wd→Nds→Nds):∀(l:Its) (j:Nat) (v:Int) (ks:Nds),(eG l j).isSome=true→erI E l (dK j v ks)=dK j v (erI E l ks)
 | .nil,j,v,ks,h=>by cases j <;> cases h
 | .cons h l,0,v,.nil,_=>rfl
 | .cons h l,0,v,.cons a b c d e f g r,_=>rfl
 | .cons h l,j+1,v,.nil,_=>rfl
 | .cons h l,j+1,v,.cons a b c d e f g r,hh=>by
  simp only[dK,erI];rw[pZ E l j v r hh]
 | .when ..,0,v,ks,h=>by cases h
 | .when p q body l,j+1,v,.nil,_=>rfl
 | .when p q body l,j+1,v,.cons a b c d e f g r,hh=>by
  simp only[dK,erI];rw[pZ E l j v r hh]
theorem Fv(E:Wd→Nds→Nds){C:Wd→Nat}{W:Wri}{l:Its}{ks p:Nds}{i:Nat}(hi:i∈ord l.row)(h:gp C W l ks i=some p):erB E l p=erB E l ks:=by
 unfold gp at h;cases hh:eG l i with
 |none=>rw[hh]at h;cases h;rfl
 |some hd=>
  rw[hh]at h;simp only[]at h;split at h
  ·cases h;unfold erB;rw[pZ E l i _ ks (by rw[hh];rfl),vN i 0 _ _ (by rw[Nat.zero_add];exact hi)]
  ·cases h
theorem tE(E:Wd→Nds→Nds){C:Wd→Nat}{W:Wri}{l:Its}:∀(O:List Nat) (ks p:Nds),(∀i∈O,i∈ord l.row)→eE C W l O ks=some p→erB E l p=erB E l ks
 |[],ks,p,_,h=>by cases h;rfl
 |i::O,ks,p,hO,h=>by
  unfold eE at h;obtain⟨q,h1,h2⟩:=Option.bind_eq_some_iff.1 h;rw[tE E O q p (fun j hj=>hO j (by simp[hj])) h2,Fv E (hO i (by simp)) h1]
theorem zW{f:Nds→Option Nds}{E:Nds→Nds}(hf:∀ks p,f ks=some p→E p=E ks):∀(ks p:Nds),dD f ks=some p→erE E p=erE E ks
 | .nil,p,h=>by cases h;rfl
 | .cons a b c d e t g r,p,h=>by
  unfold dD at h;obtain⟨g',h1,h2⟩:=Option.bind_eq_some_iff.1 h;obtain⟨r',h3,h4⟩:=Option.map_eq_some_iff.1 h2;cases h4;simp only[erE];rw[hf _ _ h1,zW hf r r' h3]
theorem GJ{B:Fxr}{E:Wd→Nds→Nds}(hB:∀nm ks p,B nm ks=some p→E nm p=E nm ks){h:Hd}{ks p:Nds}(hh:hdF B h ks=some p):erH E h p=erH E h ks:=by
 unfold hdF at hh;unfold erH;cases hk:h.k with
 |scalar w=>rw[hk]at hh;cases hh;rfl
 |bytes=>rw[hk]at hh;cases hh;rfl
 |struct t=>
  rw[hk]at hh;simp only[]at hh⊢
  by_cases hm:cI h=true
  ·rw[if_pos hm]at hh;rw[if_pos hm,if_pos hm];exact zW (hB t) _ _ hh
  ·rw[if_neg hm]at hh;rw[if_neg hm,if_neg hm];exact hB _ _ _ hh
theorem jV{C:Wd→Nat}{W:Wri}{B:Fxr}{E:Wd→Nds→Nds}(hB:∀nm ks p,B nm ks=some p→E nm p=E nm ks):∀(l:Its) (ks p:Nds),aM C W B l ks=some p→erI E l p=erI E l ks
 | .nil,ks,p,h=>by unfold aM at h;cases h;rfl
 | .cons h l,.nil,p,hh=>by unfold aM at hh;cases hh;rfl
 | .when ..,.nil,p,h=>by unfold aM at h;cases h;rfl
 | .cons h l,.cons a b c d e f g r,p,hh=>by
  unfold aM at hh;obtain⟨g',h1,h2⟩:=Option.bind_eq_some_iff.1 hh;obtain⟨r',h3,h4⟩:=Option.map_eq_some_iff.1 h2;cases h4;simp only[erI];rw[GJ hB h1,jV hB l r r' h3]
 | .when p0 q0 body l,.cons a b c d e f g r,p,hh=>by
  unfold aM at hh;obtain⟨g',h1,h2⟩:=Option.bind_eq_some_iff.1 hh;obtain⟨r',h3,h4⟩:=Option.map_eq_some_iff.1 h2;cases h4;simp only[erI];rw[jV hB l r r' h3]
  by_cases he:e=0
  ·rw[if_pos he]at h1;cases h1;rfl
  ·rw[if_neg he]at h1;obtain⟨q,h5,h6⟩:=Option.bind_eq_some_iff.1 h1;have h7:=tE E _ _ _ (fun i hi=>hi) h6;unfold erB at h7;rw[if_neg he,if_neg he,h7,jV hB body g q h5]
theorem Fw{C:Wd→Nat}{W:Wri}{B:Fxr}{E:Wd→Nds→Nds}(hB:∀nm ks p,B nm ks=some p→E nm p=E nm ks){l:Its}{ks p:Nds}(h:fj C W B l ks=some p):erB E l p=erB E l ks:=by
 unfold fj at h;obtain⟨q,h5,h6⟩:=Option.bind_eq_some_iff.1 h;rw[tE E _ _ _ (fun i hi=>hi) h6];unfold erB;rw[jV hB l ks q h5]
theorem lZ{C:Wd→Nat}:∀(L:List Ty) (nm:Wd) (ks p:Nds),dj C L nm ks=some p→erS L nm p=erS L nm ks
 |[],nm,ks,p,h=>by cases h;rfl
 |t::r,nm,ks,p,h=>by
  unfold dj at h;unfold erS;split at h
  ·rename_i hn
   rw[if_pos hn,if_pos hn];exact Fw (lZ r) h
  ·rename_i hn
   rw[if_neg hn,if_neg hn];exact lZ r nm ks p h
def fp:Its→Nat
 | .nil=>0
 | .cons _ l=>fp l+1
 | .when _ _ _ l=>fp l+1
theorem fY(W:Wri):∀(l:Its) (ks:Nds),aH W l ks=if fp l=ks.len then dC (texts W l ks)else none
 | .nil,.nil=>rfl
 | .nil,.cons a b c d e f g r=>by simp[aH,fp,Nds.len]
 | .cons h l,.nil=>by simp[aH,fp,Nds.len]
 | .when ..,.nil=>by simp[aH,fp,Nds.len]
 | .cons h l,.cons a b c d e f g r=>by
  simp only[aH,fp,Nds.len,texts,dC,Nat.add_right_cancel_iff];rw[fY W l r]
  by_cases hl:fp l=r.len
  ·rw[if_pos hl,if_pos hl]
  ·rw[if_neg hl,if_neg hl];cases bc W h ⟨a,b,c,d,e,f,g⟩ <;> rfl
 | .when p q body l,.cons a b c d e f g r=>by
  simp only[aH,fp,Nds.len,texts,dC,Nat.add_right_cancel_iff];rw[fY W l r]
  by_cases hn:a≠[]∨b≠4
  ·rw[if_pos hn,if_pos hn]
   by_cases hl:fp l=r.len
   ·rw[if_pos hl];rfl
   ·rw[if_neg hl]
  ·rw[if_neg hn,if_neg hn]
   by_cases hl:fp l=r.len
   ·rw[if_pos hl,if_pos hl];unfold sh;cases g <;> rfl
   ·rw[if_neg hl,if_neg hl];cases(if e=0 then(match g with| .nil=>some []|_=>none)else aH W body g) <;> rfl
theorem kZ:∀L:List (Option Wd),(dC L).isSome=L.all (·.isSome)
 |[]=>rfl
 |x::r=>by
  have:=kZ r;unfold dC;cases x with
  |none=>rfl
  |some u=>simp[this]
theorem iq(W:Wri):∀(l:Its) (ks:Nds) (j:Nat) (h:Hd),eG l j=some h→(texts W l ks)[j]? =(nth j ks).map (bc W h)
 | .nil,ks,j,h,hh=>by cases j <;> cases hh
 | .cons h0 l,.nil,j,h,hh=>by cases j <;> rfl
 | .when ..,.nil,j,h,hh=>by cases j <;> rfl
 | .cons h0 l,.cons a b c d e f g r,0,h,hh=>by cases hh;rfl
 | .cons h0 l,.cons a b c d e f g r,j+1,h,hh=>by
  have:=iq W l r j h hh;simpa[texts,nth]using this
 | .when ..,.cons ..,0,h,hh=>by cases hh
 | .when p q body l,.cons a b c d e f g r,j+1,h,hh=>by
  have:=iq W l r j h hh;simpa[texts,nth]using this
def Sg(h:Hd):Prop:=∃w,h.k= .scalar w∧cI h=false
theorem oD{h:Hd}(hf:fO h)(hr:isNone h.ax=false):Sg h:=by
 obtain⟨_,_,h1,_,_,h2⟩:=hf;have hr2:h.ax≠.none:=by intro e;rw[e]at hr;cases hr
 obtain⟨w,hw⟩:=h2 hr2;refine⟨w,hw,?_⟩;unfold cI;rw[hw];cases hc:h.cnt with
 |none=>rfl
 |some c=>exact absurd (h1 c hc).2 hr2
theorem p7{W:Wri}{h:Hd}(hs:Sg h)(d:Nd):bc W h d=if d.name≠h.name∨d.kind≠1 then none else if cz (wOf h.k) d.val then some (py (wOf h.k) d.val)else none:=by
 obtain⟨w,hw,hm⟩:=hs;unfold bc aY;rw[hm,hw];rfl
theorem ld(W:Wri):∀(l:Its) (ks:Nds) (j:Nat) (v:Int) (h:Hd),eG l j=some h→Sg h→cz (wOf h.k) v=true→(texts W l ks).all (·.isSome)=true→(texts W l (dK j v ks)).all (·.isSome)=true
 | .nil,ks,j,v,h,hh,_,_,_=>by cases j <;> cases hh
 | .cons h0 l,.nil,j,v,h,hh,_,_,_=>by cases j <;> rfl
 | .when ..,.nil,j,v,h,hh,_,_,_=>by cases j <;> rfl
 | .cons h0 l,.cons a b c d e f g r,0,v,h,hh,hs,hv,ha=>by
  cases hh;simp only[texts,dK,List.all_cons,Bool.and_eq_true]at ha⊢;refine⟨?_,ha.2⟩;rw[p7 hs]at ha⊢;simp only[]at ha⊢;split at ha
  ·exact absurd ha.1 (by simp)
  ·rename_i hn
   rw[if_neg hn,if_pos hv];rfl
 | .cons h0 l,.cons a b c d e f g r,j+1,v,h,hh,hs,hv,ha=>by
  simp only[texts,dK,List.all_cons,Bool.and_eq_true]at ha⊢;exact⟨ha.1,ld W l r j v h hh hs hv ha.2⟩
 | .when ..,.cons ..,0,v,h,hh,_,_,_=>by cases hh
 | .when p q body l,.cons a b c d e f g r,j+1,v,h,hh,hs,hv,ha=>by
  simp only[texts,dK,List.all_cons,Bool.and_eq_true]at ha⊢;exact⟨ha.1,ld W l r j v h hh hs hv ha.2⟩
theorem dR{W:Wri}{l:Its}{ks:Nds}:(aH W l ks).isSome=true↔fp l=ks.len∧(texts W l ks).all (·.isSome)=true:=by
 rw[fY];split
 ·rename_i h
  rw[kZ];exact⟨fun h2=>⟨h,h2⟩,fun h2=>h2.2⟩
 ·rename_i h
  exact⟨fun h2=>(by cases h2),fun h2=>absurd h2.1 h⟩
theorem jx:∀(l:Its) (j:Nat),l.row[j]? =(match eG l j with|some h=>some (skH h)|none=>if j < fp l then some skW else none)
 | .nil,j=>by cases j <;> rfl
 | .cons h l,0=>rfl
 | .when ..,0=>by simp[Its.row,eG,fp]
 | .cons h l,j+1=>by
  have:=jx l j;simpa[Its.row,eG,fp]using this
 | .when _ _ _ l,j+1=>by
  have:=jx l j;simpa[Its.row,eG,fp]using this
theorem fM:∀{l:Its} {j:Nat} {h:Hd},bB l→eG l j=some h→fO h
 | .nil,j,h,_,hh=>by cases j <;> cases hh
 | .cons h0 l,0,h,hf,hh=>by cases hh;exact hf.1
 | .cons h0 l,j+1,h,hf,hh=>fM hf.2 hh
 | .when ..,0,h,_,hh=>by cases hh
 | .when p q b l,j+1,h,hf,hh=>fM hf.2.2 hh
theorem iP{l:Its}{i:Nat}(hi:i∈ord l.row):∃h,eG l i=some h∧isNone h.ax=false:=by
 have h1:=(Ft l.row).ax i hi;have h2:=jx l i;unfold kh bK at h1;cases hh:eG l i with
 |none=>
  rw[hh]at h2;simp only[]at h2;split at h2
  ·rw[h2]at h1;simp[skW,vL,aJ]at h1
  ·rw[h2]at h1;simp at h1
 |some h=>
  rw[hh]at h2;simp only[]at h2;rw[h2]at h1;refine⟨h,rfl,?_⟩;simp only[skH]at h1;cases hr:h.ax <;> rw[hr]at h1 <;> simp[vL,aJ,isNone]at h1⊢
theorem l7{C:Wd→Nat}{W:Wri}{l:Its}(hf:bB l){ks p:Nds}{i:Nat}(hi:i∈ord l.row)(h:gp C W l ks i=some p)(hw:(aH W l ks).isSome=true):(aH W l p).isSome=true:=by
 obtain⟨hd,h1,h2⟩:=iP hi;unfold gp at h;rw[h1]at h;simp only[]at h;split at h
 ·rename_i hv
  cases h;rw[dR]at hw⊢;exact⟨by rw[lY];exact hw.1,ld W l ks i _ hd h1 (oD (fM hf h1) h2) hv hw.2⟩
 ·cases h
theorem tF{C:Wd→Nat}{W:Wri}{l:Its}(hf:bB l):∀(O:List Nat) (ks p:Nds),(∀i∈O,i∈ord l.row)→eE C W l O ks=some p→(aH W l ks).isSome=true→(aH W l p).isSome=true
 |[],ks,p,_,h,hw=>by cases h;exact hw
 |i::O,ks,p,hO,h,hw=>by
  unfold eE at h;obtain⟨q,h1,h2⟩:=Option.bind_eq_some_iff.1 h;exact tF hf O q p (fun j hj=>hO j (by simp[hj])) h2 (l7 hf (hO i (by simp)) h1 hw)
end Fx
namespace Fx
open Ly Tm
def kB(W:Wri)(B:Fxr):Prop:=∀nm ks p,B nm ks=some p→(W nm ks).isSome=true→(W nm p).isSome=true
theorem sk{f:Nds→Option Nds}{g:Nd→Option Wd}(hf:∀(d:Nd) (p:Nds),f d.kids=some p→(g d).isSome=true→(g {d with kids:=p}).isSome=true):∀ks p:Nds,dD f ks=some p→(cO g ks).isSome=true→(cO g p).isSome=true
 | .nil,p,h,hw=>by cases h;exact hw
 | .cons a b c d e t k r,p,h,hw=>by
  unfold dD at h;obtain⟨k',h1,h2⟩:=Option.bind_eq_some_iff.1 h;obtain⟨r',h3,h4⟩:=Option.map_eq_some_iff.1 h2;cases h4;unfold cO at hw⊢;cases hg:g ⟨a,b,c,d,e,t,k⟩with
  |none=>rw[hg]at hw;cases hw
  |some u=>
   rw[hg]at hw;cases hr:cO g r with
   |none=>rw[hr]at hw;cases hw
   |some v=>
    have h5:=hf ⟨a,b,c,d,e,t,k⟩ k' h1 (by rw[hg];rfl);have h6:=sk hf r r' h3 (by rw[hr];rfl);obtain⟨u',hu⟩:=Option.isSome_iff_exists.1 h5;obtain⟨v',hv⟩:=Option.isSome_iff_exists.1 h6;simp only[]at hu;rw[hu,hv];rfl
theorem GK{W:Wri}{B:Fxr}(hB:kB W B){h:Hd}{d:Nd}{p:Nds}(hh:hdF B h d.kids=some p)(hw:(bc W h d).isSome=true):(bc W h {d with kids:=p}).isSome=true:=by
 unfold hdF at hh;cases hk:h.k with
 |scalar w=>
  rw[hk]at hh;cases hh;exact hw
 |bytes=>
  rw[hk]at hh;cases hh;exact hw
 |struct t=>
  rw[hk]at hh;simp only[]at hh;have hone:∀(d:Nd) (p:Nds),B t d.kids=some p→(aY W h d).isSome=true→(aY W h {d with kids:=p}).isSome=true:=by
   intro d p h1 h2;unfold aY at h2⊢;rw[hk]at h2⊢;simp only[]at h2⊢;split at h2
   ·cases h2
   ·rename_i hn
    rw[if_neg hn];exact hB _ _ _ h1 h2
  unfold bc at hw⊢
  by_cases hm:cI h=true
  ·rw[if_pos hm]at hh hw⊢;simp only[]at hw⊢;split at hw
   ·cases hw
   ·rename_i hn
    rw[if_neg hn];exact sk hone _ _ hh hw
  ·rw[if_neg hm]at hh hw⊢;exact hone d p hh hw
theorem di{C:Wd→Nat}{W:Wri}{B:Fxr}(hB:kB W B):∀(l:Its),bB l→∀(ks p:Nds),aM C W B l ks=some p→(aH W l ks).isSome=true→(aH W l p).isSome=true
 | .nil,_,ks,p,h,hw=>by unfold aM at h;cases h;exact hw
 | .cons h l,_,.nil,p,hh,hw=>by unfold aM at hh;cases hh;exact hw
 | .when ..,_,.nil,p,h,hw=>by unfold aM at h;cases h;exact hw
 | .cons h l,hf,.cons a b c d e f g r,p,hh,hw=>by
  unfold aM at hh;obtain⟨g',h1,h2⟩:=Option.bind_eq_some_iff.1 hh;obtain⟨r',h3,h4⟩:=Option.map_eq_some_iff.1 h2;cases h4;unfold aH at hw⊢;cases hp:bc W h ⟨a,b,c,d,e,f,g⟩with
  |none=>rw[hp]at hw;cases hw
  |some u=>
   rw[hp]at hw;cases hr:aH W l r with
   |none=>rw[hr]at hw;cases hw
   |some v=>
    obtain⟨u',hu⟩:=Option.isSome_iff_exists.1 (GK hB (d:=⟨a,b,c,d,e,f,g⟩) h1 (by rw[hp];rfl));obtain⟨v',hv⟩:=Option.isSome_iff_exists.1 (di hB l hf.2 r r' h3 (by rw[hr];rfl));simp only[]at hu;rw[hu,hv];rfl
 | .when p0 q0 body l,hf,.cons a b c d e f g r,p,hh,hw=>by
  unfold aM at hh;obtain⟨g',h1,h2⟩:=Option.bind_eq_some_iff.1 hh;obtain⟨r',h3,h4⟩:=Option.map_eq_some_iff.1 h2;cases h4;unfold aH at hw⊢
  by_cases hn:a≠[]∨b≠4
  ·rw[if_pos hn]at hw;cases hw
  ·rw[if_neg hn]at hw⊢;cases hr:aH W l r with
   |none=>
    rw[hr]at hw;simp only[Option.map_none]at hw;rw[Option.isSome_iff_exists]at hw;obtain⟨x,hx⟩:=hw;obtain⟨_,_,hx2⟩:=Option.bind_eq_some_iff.1 hx;cases hx2
   |some v=>
    obtain⟨v',hv⟩:=Option.isSome_iff_exists.1 (di hB l hf.2.2 r r' h3 (by rw[hr];rfl));rw[hv]
    by_cases he:e=0
    ·rw[if_pos he]at h1 hw⊢;cases h1;rw[hr]at hw;cases g with
     |nil=>rfl
     |cons=>cases hw
    ·rw[if_neg he]at h1 hw⊢;obtain⟨q,h5,h6⟩:=Option.bind_eq_some_iff.1 h1;have hb:(aH W body g).isSome=true:=by
      cases hbb:aH W body g with
      |none=>rw[hbb]at hw;cases hw
      |some z=>rfl
     obtain⟨z,hz⟩:=Option.isSome_iff_exists.1 (tF hf.2.1 _ _ _ (fun i hi=>hi) h6 (di hB body hf.2.1 g q h5 hb));rw[hz];rfl
theorem Fy{C:Wd→Nat}{W:Wri}{B:Fxr}(hB:kB W B){l:Its}(hf:bB l){ks p:Nds}(h:fj C W B l ks=some p)(hw:(aH W l ks).isSome=true):(aH W l p).isSome=true:=by
 unfold fj at h;obtain⟨q,h5,h6⟩:=Option.bind_eq_some_iff.1 h;exact tF hf _ _ _ (fun i hi=>hi) h6 (di hB l hf ks q h5 hw)
theorem fJ{C:Wd→Nat}:∀(L:List Ty),(∀t∈L,aZ t)→kB (wrS L) (dj C L)
 |[],_,nm,ks,p,h,hw=>by cases hw
 |t::r,hF,nm,ks,p,h,hw=>by
  unfold dj at h;unfold wrS at hw⊢;split at h
  ·rename_i hn
   rw[if_pos hn]at hw⊢;exact Fy (fJ r (fun t ht=>hF t (by simp[ht]))) (hF t (by simp)).2 h hw
  ·rename_i hn
   rw[if_neg hn]at hw⊢;exact fJ r (fun t ht=>hF t (by simp[ht])) nm ks p h hw
theorem nj{W:Wri}(hW:qX W){O:List Nat}:∀(l:Its) (X Y:Nds) (b j:Nat),erO O b (strip X)=erO O b (strip Y)→b+j∉O→(texts W l X)[j]? =(texts W l Y)[j]?
 | .nil,X,Y,b,j,_,_=>by cases X <;> cases Y <;> rfl
 | .cons h l,.nil,.nil,b,j,_,_=>rfl
 | .when ..,.nil,.nil,b,j,_,_=>rfl
 | .cons h l,.nil,.cons ..,b,j,he,_=>by simp[strip,erO]at he
 | .cons h l,.cons ..,.nil,b,j,he,_=>by simp[strip,erO]at he
 | .when ..,.nil,.cons ..,b,j,he,_=>by simp[strip,erO]at he
 | .when ..,.cons ..,.nil,b,j,he,_=>by simp[strip,erO]at he
 | .cons h l,.cons a1 a2 a3 a4 a5 a6 a7 r1,.cons b1 b2 b3 b4 b5 b6 b7 r2,b,j,he,hj=>by
  simp only[strip,erO]at he;injection he with e1 e2 e3 e4 e5 e6 e7 e8
  cases j with
  |zero=>
   have hb:O.contains b=false:=by simpa using hj
   rw[hb]at e5;simp only[Bool.false_eq_true,if_false]at e5;have h1:=jw hW h ⟨a1,a2,a3,a4,a5,a6,a7⟩;have h2:=jw hW h ⟨b1,b2,b3,b4,b5,b6,b7⟩;unfold Nd.strip at h1 h2;simp only[]at h1 h2;simp only[texts,List.getElem?_cons_zero];rw[← h1,← h2,e1,e2,e5,e6,e7]
  |succ j=>
   have:=nj hW l r1 r2 (b+1) j e8 (by rw[show b+1+j=b+(j+1) by omega];exact hj);simpa[texts]using this
 | .when p q body l,.cons a1 a2 a3 a4 a5 a6 a7 r1,.cons b1 b2 b3 b4 b5 b6 b7 r2,b,j,he,hj=>by
  simp only[strip,erO]at he;injection he with e1 e2 e3 e4 e5 e6 e7 e8
  cases j with
  |zero=>
   have hb:O.contains b=false:=by simpa using hj
   rw[hb]at e5;simp only[Bool.false_eq_true,if_false]at e5;simp only[texts,List.getElem?_cons_zero];rw[← nU hW body a5 a7,← nU hW body b5 b7,e1,e2,e5,e7]
  |succ j=>
   have:=nj hW l r1 r2 (b+1) j e8 (by rw[show b+1+j=b+(j+1) by omega];exact hj);simpa[texts]using this
theorem tG{O:List Nat}:∀(X Y:Nds) (b j:Nat),erO O b (strip X)=erO O b (strip Y)→(nth j X).map (fun d=>d.kids.len)=(nth j Y).map fun d=>d.kids.len
 | .nil,.nil,b,j,_=>rfl
 | .nil,.cons ..,b,j,he=>by simp[strip,erO]at he
 | .cons ..,.nil,b,j,he=>by simp[strip,erO]at he
 | .cons a1 a2 a3 a4 a5 a6 a7 r1,.cons b1 b2 b3 b4 b5 b6 b7 r2,b,j,he=>by
  simp only[strip,erO]at he;injection he with e1 e2 e3 e4 e5 e6 e7 e8
  cases j with
  |zero=>
   simp only[nth,Option.map_some];rw[← il a7,← il b7,e7]
  |succ j=>exact tG r1 r2 (b+1) j e8
end Fx
namespace Fx
open Ly Tm
theorem DN{α:Type}{L M:List α}{a b:Nat}(h:∀j,a≤j→j≤b→L[j]? =M[j]?):(L.drop a).take (b+1 - a)=(M.drop a).take (b+1 - a):=by
 apply List.ext_getElem?;intro j;rw[List.getElem?_take,List.getElem?_take];split
 ·rw[List.getElem?_drop,List.getElem?_drop];exact h _ (by omega) (by omega)
 ·rfl
theorem sm{α:Type}(L:List α)(a:Nat):(L.drop a).take (a+1 - a)=L[a]?.toList:=by
 rw[show a+1 - a=1 by omega,List.take_one,List.head?_drop]
theorem tH{L:List (Option Wd)}(h:L.all (·.isSome)=true){j:Nat}{x:Option Wd}(hj:L[j]? =some x):x.isSome=true:=List.all_eq_true.1 h x (List.mem_of_getElem? hj)
theorem pI{C:Wd→Nat}{W:Wri}(hW:qX W){l:Its}(hf:bB l){pre O:List Nat}{i:Nat}(he:ord l.row=pre++i::O){h:Hd}(hh:eG l i=some h){X Y:Nds}(hX:(aH W l X).isSome=true)(hY:(aH W l Y).isSome=true)(hE:erO (i::O) 0 (strip X)=erO (i::O) 0 (strip Y)):av C W l X h=av C W l Y h:=by
 have hT:∀j,j∉i::O→(texts W l X)[j]? =(texts W l Y)[j]? :=fun j hj=>nj hW l X Y 0 j hE (by rw[Nat.zero_add];exact hj)
 have hg:=Ft l.row;unfold av;cases hr:h.ax with
 |none=>rfl
 |count f=>
  simp only[];have hn:=tG X Y 0 (aV l.row f).toNat hE;cases hx:nth (aV l.row f).toNat X <;> cases hy:nth (aV l.row f).toNat Y <;> rw[hx,hy]at hn <;> simp at hn⊢
  omega
 |size f=>
  simp only[];generalize(aV l.row f).toNat=a;unfold jv;rw[sm,sm]
  by_cases ha:a∈i::O
  ·obtain⟨h',h1,h2⟩:=iP (l:=l) (i:=a) (by rw[he];exact List.mem_append_right _ ha);have hs:=oD (fM hf h1) h2;have hn:=tG X Y 0 a hE;have hx:=iq W l X a h' h1;have hy:=iq W l Y a h' h1;rw[dR]at hX hY;cases hdx:nth a X with
   |none=>
    cases hdy:nth a Y with
    |none=>rw[hx,hy,hdx,hdy]
    |some dy=>rw[hdx,hdy]at hn;cases hn
   |some dx=>
    cases hdy:nth a Y with
    |none=>rw[hdx,hdy]at hn;cases hn
    |some dy=>
     rw[hdx]at hx;rw[hdy]at hy;have sx:=tH hX.2 hx;have sy:=tH hY.2 hy;rw[hx,hy];simp only[Option.map_some];have hlen:∀d:Nd,(bc W h' d).isSome=true→(((dC (some (bc W h' d)).toList).getD []).length:Int)=(bj (wOf h'.k):Int):=by
      intro d hd;rw[p7 hs]at hd⊢;split at hd
      ·cases hd
      ·rename_i hn
       split at hd
       ·rename_i hv
        rw[if_neg hn,if_pos hv];simp only[Option.toList_some,dC,Option.bind_some,Option.map_some,List.append_nil,Option.getD_some];unfold py;rw[nM]
       ·cases hd
     rw[hlen dx sx,hlen dy sy]
  ·rw[hT a ha]
 |check f g=>
  simp only[];split
  ·rfl
  ·rename_i hg0
   unfold jv;rw[DN (fun j h1 h2=>hT j (fun hj=> ?_))];have hm:j∈ord l.row:=by rw[he];exact List.mem_append_right _ hj
   have hrow:=jx l i;rw[hh]at hrow;simp only[]at hrow;have ho:eC l.row i j=true:=by
    unfold eC;rw[hrow];simp only[skH,hr,aJ,bg,cW,Bool.true_and,Bool.and_eq_true,decide_eq_true_eq];omega
   have hc:bK l.row i=true:=by
    unfold bK;rw[hrow];simp only[skH,hr,aJ]
   have hp:=hg.cl pre i O he hc j (hg.lt j hm) ho ((hg.ax j hm).symm);have hd:=hg.nodup;rw[he,List.nodup_append]at hd;exact hd.2.2 j hp j hj rfl
theorem yO{O:List Nat}{b:Nat}:∀(X:Nds) (k:Nat),b < k→erO (b::O) k X=erO O k X
 | .nil,k,_=>rfl
 | .cons a1 a2 a3 a4 a5 a6 a7 r,k,h=>by
  have hc:(b::O).contains k=O.contains k:=by
   rw[List.contains_cons];have:(k==b)=false:=by rw[Z8];omega
   rw[this,Bool.false_or]
  have ih:=yO (O:=O) (b:=b) r (k+1) (by omega);simp only[erO,hc,ih]
theorem zX{O:List Nat}{v:Int}:∀(i b:Nat) (X Y:Nds),erO ((b+i)::O) b X=erO ((b+i)::O) b Y→erO O b (dK i v X)=erO O b (dK i v Y)
 |i,b,.nil,.nil,_=>by cases i <;> rfl
 |i,b,.nil,.cons ..,h=>by simp[erO]at h
 |i,b,.cons ..,.nil,h=>by simp[erO]at h
 |0,b,.cons a1 a2 a3 a4 a5 a6 a7 r1,.cons b1 b2 b3 b4 b5 b6 b7 r2,h=>by
  simp only[erO]at h;injection h with e1 e2 e3 e4 e5 e6 e7 e8
  rw[Y2,yO r1 _ (by omega),yO r2 _ (by omega)]at e8;simp only[dK,erO,e1,e2,e6,e7,e8]
 |i+1,b,.cons a1 a2 a3 a4 a5 a6 a7 r1,.cons b1 b2 b3 b4 b5 b6 b7 r2,h=>by
  simp only[erO]at h;injection h with e1 e2 e3 e4 e5 e6 e7 e8
  rw[show b+(i+1)=b+1+i by omega]at e8;have h9:=zX (v:=v) i (b+1) r1 r2 e8;have hc:((b+(i+1))::O).contains b=O.contains b:=by
   rw[List.contains_cons];have:(b==b+(i+1))=false:=by rw[Z8];omega
   rw[this,Bool.false_or]
  rw[hc]at e5;simp only[dK,erO,e1,e2,e5,e6,e7,h9]
theorem nu:∀(X:Nds) (b:Nat),erO [] b (strip X)=strip X
 | .nil,b=>rfl
 | .cons a1 a2 a3 a4 a5 a6 a7 r,b=>by
  have ih:=nu r (b+1);simp[strip,erO,ih]
theorem tI{C:Wd→Nat}{W:Wri}(hW:qX W){l:Its}(hf:bB l):∀(O pre:List Nat) (X Y:Nds),ord l.row=pre++O→(aH W l X).isSome=true→(aH W l Y).isSome=true→erO O 0 (strip X)=erO O 0 (strip Y)→(eE C W l O X).map strip=(eE C W l O Y).map strip
 |[],pre,X,Y,he,hX,hY,hE=>by
  rw[nu,nu]at hE;simp only[eE,Option.map_some,hE]
 |i::O,pre,X,Y,he,hX,hY,hE=>by
  have hi:i∈ord l.row:=by rw[he];simp
  obtain⟨h,h1,h2⟩:=iP hi;have hv:=pI (C:=C) hW hf he h1 hX hY hE;unfold eE
  by_cases hw:cz (wOf h.k) (av C W l Y h)=true
  ·have eX:gp C W l X i=some (dK i (av C W l Y h) X):=by unfold gp;rw[h1];simp only[];rw[hv,if_pos hw]
   have eY:gp C W l Y i=some (dK i (av C W l Y h) Y):=by unfold gp;rw[h1];simp only[];rw[if_pos hw]
   rw[eX,eY];simp only[Option.bind_some];refine tI hW hf O (pre++[i]) _ _ (by rw[he];simp) (l7 hf hi eX hX) (l7 hf hi eY hY) ?_;rw[kY,kY];exact zX i 0 _ _ (by rw[Nat.zero_add];exact hE)
  ·have eX:gp C W l X i=none:=by unfold gp;rw[h1];simp only[];rw[hv,if_neg hw]
   have eY:gp C W l Y i=none:=by unfold gp;rw[h1];simp only[];rw[if_neg hw]
   rw[eX,eY]
end Fx
namespace Fx
open Ly Tm
theorem gO{α β:Type}{s:α→β}{o o':Option α}(h:o.map s=o'.map s):(o=none∧o'=none)∨∃x y,o=some x∧o'=some y∧s x=s y:=by
 cases o <;> cases o' <;> simp at h⊢
 exact h
def BZ(P:Nds→Prop):Nds→Prop
 | .nil=>True
 | .cons _ _ _ _ _ _ g r=>P g∧BZ P r
theorem vO{f:Nds→Option Nds}{E:Nds→Nds}{P:Nds→Prop}(hf:∀X Y,P X→P Y→E X=E Y→(f X).map strip=(f Y).map strip):∀X Y:Nds,BZ P X→BZ P Y→erE E X=erE E Y→(dD f X).map strip=(dD f Y).map strip
 | .nil,.nil,_,_,_=>rfl
 | .nil,.cons ..,_,_,h=>by simp[erE]at h
 | .cons ..,.nil,_,_,h=>by simp[erE]at h
 | .cons a1 a2 a3 a4 a5 a6 a7 r1,.cons b1 b2 b3 b4 b5 b6 b7 r2,hX,hY,h=>by
  simp only[erE]at h;injection h with e1 e2 e3 e4 e5 e6 e7 e8
  unfold dD;rcases gO (hf a7 b7 hX.1 hY.1 e7)with⟨h1,h2⟩|⟨x,y,h1,h2,h3⟩
  ·rw[h1,h2];rfl
  ·rcases gO (vO hf r1 r2 hX.2 hY.2 e8)with⟨h4,h5⟩|⟨u,v,h4,h5,h6⟩
   ·rw[h1,h2,h4,h5];rfl
   ·rw[h1,h2,h4,h5];simp only[Option.bind_some,Option.map_some,strip,e1,e2,e5,e6,h3,h6]
def Fz(W:Wri)(B:Fxr)(E:Wd→Nds→Nds):Prop:=∀nm X Y,(W nm X).isSome=true→(W nm Y).isSome=true→E nm X=E nm Y→(B nm X).map strip=(B nm Y).map strip
theorem bt{W:Wri}{h:Hd}{t:Wd}(hk:h.k= .struct t){d:Nd}(hw:(aY W h d).isSome=true):(W t d.kids).isSome=true:=by
 unfold aY at hw;rw[hk]at hw;simp only[]at hw;split at hw
 ·cases hw
 ·exact hw
theorem jy{g:Nd→Option Wd}{P:Nds→Prop}(hg:∀d,(g d).isSome=true→P d.kids):∀ks:Nds,(cO g ks).isSome=true→BZ P ks
 | .nil,_=>trivial
 | .cons a b c d e f k r,h=>by
  unfold cO at h;cases h1:g ⟨a,b,c,d,e,f,k⟩with
  |none=>rw[h1]at h;cases h
  |some u=>
   rw[h1]at h;cases h2:cO g r with
   |none=>rw[h2]at h;cases h
   |some v=>exact⟨hg ⟨a,b,c,d,e,f,k⟩ (by rw[h1];rfl),jy hg r (by rw[h2];rfl)⟩
theorem GL{W:Wri}{B:Fxr}{E:Wd→Nds→Nds}(hB:Fz W B E){h:Hd}{d d':Nd}(hd:(bc W h d).isSome=true)(hd':(bc W h d').isSome=true)(he:erH E h d.kids=erH E h d'.kids):(hdF B h d.kids).map strip=(hdF B h d'.kids).map strip:=by
 unfold hdF;unfold erH at he;cases hk:h.k with
 |scalar w=>rw[hk]at he;simp only[]at he⊢;rw[Option.map_some,Option.map_some,he]
 |bytes=>rw[hk]at he;simp only[]at he⊢;rw[Option.map_some,Option.map_some,he]
 |struct t=>
  rw[hk]at he;simp only[]at he⊢;unfold bc at hd hd'
  by_cases hm:cI h=true
  ·rw[if_pos hm]at hd hd';rw[if_pos hm,if_pos hm]at he;rw[if_pos hm,if_pos hm];split at hd
   ·cases hd
   ·split at hd'
    ·cases hd'
    ·exact vO (hB t) _ _ (jy (fun d h=>bt hk h) _ hd) (jy (fun d h=>bt hk h) _ hd') he
  ·rw[if_neg hm]at hd hd';rw[if_neg hm,if_neg hm]at he;rw[if_neg hm,if_neg hm];exact hB t _ _ (bt hk hd) (bt hk hd') he
theorem cg{W:Wri}{h:Hd}{l:Its}{a b c d e f g r}(hw:(aH W (.cons h l) (.cons a b c d e f g r)).isSome=true):(bc W h ⟨a,b,c,d,e,f,g⟩).isSome=true∧(aH W l r).isSome=true:=by
 unfold aH at hw;cases hp:bc W h ⟨a,b,c,d,e,f,g⟩with
 |none=>rw[hp]at hw;cases hw
 |some u=>
  rw[hp]at hw;cases hr:aH W l r with
  |none=>rw[hr]at hw;cases hw
  |some v=>exact⟨rfl,rfl⟩
theorem bF{W:Wri}{p:Nat}{q:Ex.X}{body l:Its}{a b c d e f g r}(hw:(aH W (.when p q body l) (.cons a b c d e f g r)).isSome=true):(e≠0→(aH W body g).isSome=true)∧(e=0→g= .nil)∧(aH W l r).isSome=true:=by
 unfold aH at hw;split at hw
 ·cases hw
 ·by_cases he:e=0
  ·rw[if_pos he]at hw;cases g with
   |cons=>cases hw
   |nil=>
    cases hr:aH W l r with
    |none=>rw[hr]at hw;cases hw
    |some v=>exact⟨fun h=>absurd he h,fun _=>rfl,rfl⟩
  ·rw[if_neg he]at hw;cases hb:aH W body g with
   |none=>rw[hb]at hw;cases hw
   |some u=>
    rw[hb]at hw;cases hr:aH W l r with
    |none=>rw[hr]at hw;cases hw
    |some v=>exact⟨fun _=>rfl,fun h=>absurd h he,rfl⟩
theorem jW{C:Wd→Nat}{W:Wri}(hW:qX W){B:Fxr}{E:Wd→Nds→Nds}(hB:Fz W B E)(hK:kB W B){O:List Nat}:∀(l:Its),bB l→∀(O:List Nat) (b:Nat) (X Y:Nds),(∀j,b+j∈O→(eG l j).isSome=true)→(aH W l X).isSome=true→(aH W l Y).isSome=true→erO O b (erI E l X)=erO O b (erI E l Y)→(aM C W B l X).map (fun p=>erO O b (strip p))=(aM C W B l Y).map fun p=>erO O b (strip p)
 | .nil,_,O,b,X,Y,_,hX,hY,he=>by
  cases X with
  |cons=>cases hX
  |nil=>
   cases Y with
   |cons=>cases hY
   |nil=>rfl
 | .cons h l,_,O,b,.nil,Y,_,hX,hY,he=>by cases hX
 | .cons h l,_,O,b,.cons ..,.nil,_,hX,hY,he=>by cases hY
 | .when ..,_,O,b,.nil,Y,_,hX,hY,he=>by cases hX
 | .when ..,_,O,b,.cons ..,.nil,_,hX,hY,he=>by cases hY
 | .cons h l,hf,O,b,.cons a1 a2 a3 a4 a5 a6 a7 r1,.cons b1 b2 b3 b4 b5 b6 b7 r2,hO,hX,hY,he=>by
  simp only[erI,erO]at he;injection he with e1 e2 e3 e4 e5 e6 e7 e8
  have hX2:=cg hX;have hY2:=cg hY;have h7:=GL hB hX2.1 hY2.1 e7;simp only[]at h7;have h8:=jW (C:=C) hW hB hK (O:=O) l hf.2 O (b+1) r1 r2 (fun j hj=>hO (j+1) (by rw[show b+(j+1)=b+1+j by omega];exact hj)) hX2.2 hY2.2 e8;unfold aM;rcases gO h7 with⟨h1,h2⟩|⟨x,y,h1,h2,h3⟩
  ·rw[h1,h2];rfl
  ·rcases gO h8 with⟨h4,h5⟩|⟨u,v,h4,h5,h6⟩
   ·rw[h1,h2,h4,h5];rfl
   ·rw[h1,h2,h4,h5];simp only[Option.bind_some,Option.map_some,strip,erO,e1,e2,e5,e6,h3,h6]
 | .when p0 q0 body l,hf,O,b,.cons a1 a2 a3 a4 a5 a6 a7 r1,.cons b1 b2 b3 b4 b5 b6 b7 r2,hO,hX,hY,he=>by
  simp only[erI,erO]at he;injection he with e1 e2 e3 e4 e5 e6 e7 e8
  have hX2:=bF hX;have hY2:=bF hY;have hb:O.contains b=false:=by
   cases hc:O.contains b with
   |false=>rfl
   |true=>exact absurd (hO 0 (by simpa using hc)) (by simp[eG])
  rw[hb]at e5;simp only[Bool.false_eq_true,if_false]at e5;subst e5;have h8:=jW (C:=C) hW hB hK (O:=O) l hf.2.2 O (b+1) r1 r2 (fun j hj=>hO (j+1) (by rw[show b+(j+1)=b+1+j by omega];exact hj)) hX2.2.2 hY2.2.2 e8;have h7:(if a5=0 then some a7 else(aM C W B body a7).bind (eE C W body (ord body.row))).map strip=(if a5=0 then some b7 else(aM C W B body b7).bind (eE C W body (ord body.row))).map strip:=by
   by_cases h0:a5=0
   ·rw[if_pos h0,if_pos h0]at e7⊢;rw[Option.map_some,Option.map_some,e7]
   ·rw[if_neg h0,if_neg h0]at e7;rw[if_neg h0,if_neg h0];have wX:=hX2.1 h0;have wY:=hY2.1 h0;have h9:=jW (C:=C) hW hB hK (O:=O) body hf.2.1 (ord body.row) 0 a7 b7 (fun j hj=>by
     rw[Nat.zero_add]at hj;obtain⟨h,hh,_⟩:=iP hj;rw[hh];rfl) wX wY e7
    rcases gO h9 with⟨h4,h5⟩|⟨u,v,h4,h5,h6⟩
    ·rw[h4,h5]
    ·rw[h4,h5];exact tI hW hf.2.1 _ [] u v rfl (di hK body hf.2.1 _ _ h4 wX) (di hK body hf.2.1 _ _ h5 wY) h6
  unfold aM;rcases gO h7 with⟨h1,h2⟩|⟨x,y,h1,h2,h3⟩
  ·rw[h1,h2];rfl
  ·rcases gO h8 with⟨h4,h5⟩|⟨u,v,h4,h5,h6⟩
   ·rw[h1,h2,h4,h5];rfl
   ·rw[h1,h2,h4,h5];simp only[Option.bind_some,Option.map_some,strip,erO,e1,e2,e6,h3,h6]
theorem FA{C:Wd→Nat}{W:Wri}(hW:qX W){B:Fxr}{E:Wd→Nds→Nds}(hB:Fz W B E)(hK:kB W B){l:Its}(hf:bB l){X Y:Nds}(hX:(aH W l X).isSome=true)(hY:(aH W l Y).isSome=true)(he:erB E l X=erB E l Y):(fj C W B l X).map strip=(fj C W B l Y).map strip:=by
 unfold fj;have h9:=jW (C:=C) hW hB hK (O:=[]) l hf (ord l.row) 0 X Y (fun j hj=>by
  rw[Nat.zero_add]at hj;obtain⟨h,hh,_⟩:=iP hj;rw[hh];rfl) hX hY he
 rcases gO h9 with⟨h4,h5⟩|⟨u,v,h4,h5,h6⟩
 ·rw[h4,h5]
 ·rw[h4,h5];exact tI hW hf _ [] u v rfl (di hK l hf _ _ h4 hX) (di hK l hf _ _ h5 hY) h6
theorem oE{C:Wd→Nat}:∀(L:List Ty),(∀t∈L,aZ t)→Fz (wrS L) (dj C L) (erS L)
 |[],_,nm,X,Y,hX,_,_=>by cases hX
 |t::r,hF,nm,X,Y,hX,hY,he=>by
  unfold dj;unfold wrS at hX hY;unfold erS at he;have hr:∀t∈r,aZ t:=fun t ht=>hF t (by simp[ht])
  by_cases hn:t.name=nm
  ·rw[if_pos hn]at hX hY;rw[if_pos hn,if_pos hn]at he;rw[if_pos hn,if_pos hn];exact FA (im r) (oE r hr) (fJ r hr) (hF t (by simp)).2 hX hY he
  ·rw[if_neg hn]at hX hY;rw[if_neg hn,if_neg hn]at he;rw[if_neg hn,if_neg hn];exact oE r hr nm X Y hX hY he
theorem yP{C:Wd→Nat}{L:List Ty}(hF:∀t∈L,aZ t){nm:Wd}{X p:Nds}(hX:(wrS L nm X).isSome=true)(h:dj C L nm X=some p):(wrS L nm p).isSome=true∧∃q,dj C L nm p=some q∧strip q=strip p:=by
 have hp:=fJ L hF nm X p h hX;have h1:=oE (C:=C) L hF nm X p hX hp (lZ L nm X p h).symm;rw[h]at h1;rcases gO h1 with⟨h4,_⟩|⟨u,v,h4,h5,h6⟩
 ·cases h4
 ·cases h4;exact⟨hp,v,h5,h6.symm⟩
end Fx
end
section
open Go Go.RowKit
open Rd
open Ly
namespace Fx
open Tm Ly
theorem lf(W:Wri):∀(i:Nat) (l:Its) (ks:Nds),texts W (l.drop i) (ks.drop i)=(texts W l ks).drop i
 |0,l,ks=>by rw[show ks.drop 0=ks by cases ks <;> rfl,show l.drop 0=l by cases l <;> rfl];rfl
 |i+1,.nil,.nil=>rfl
 |i+1,.nil,.cons ..=>by simp[Its.drop,texts]
 |i+1,.cons h l,.nil=>by cases hl:l.drop i <;> simp[Its.drop,Nds.drop,texts,hl]
 |i+1,.when ..,.nil=>by simp only[Its.drop,Nds.drop];cases h:(Its.drop i ‹Its›) <;> simp[texts]
 |i+1,.cons h l,.cons a b c d e f g r=>by simp only[Its.drop,Nds.drop,texts,List.drop_succ_cons];exact lf W i l r
 |i+1,.when p q bd l,.cons a b c d e f g r=>by simp only[Its.drop,Nds.drop,texts,List.drop_succ_cons];exact lf W i l r
theorem yQ{W:Wri}{i:Nat}{l:Its}{ks:Nds}{a:Wd}(h:(texts W l ks)[i]? =some (some a)):(texts W (l.drop i) (ks.drop i))[0]? =some (some a):=by
 rw[lf,List.getElem?_drop];simpa using h
theorem fZ:∀l:Its,fp l=l.len
 | .nil=>rfl
 | .cons _ l=>by simp only[fp,Its.len,fZ l]
 | .when _ _ _ l=>by simp only[fp,Its.len,fZ l]
end Fx
theorem FB(A:List Tm.Ty)(W:Wri)(hWl:fi W)(l:Tm.Its)(hF:Tm.bB l)(hW:∀i a c b r,l.drop i= .when a c b r→kA A W b)
  (hSt:∀i h r t,l.drop i= .cons h r→h.k= .struct t→tB A W t)(U w:World)(rb cap gcap B gi gb:Nat)(bs vs:List Value)(ks:Nds)(b1:List Nat)(hU:Below U.heap.size U w)(ho:an U (rb+1) 70 13 (some ⟨gi,0,none⟩) l.len cap bs)(hen:Tm.bp U rb l bs)
  (hkO:an w B 28 7 (some ⟨gb,0,none⟩) ks.len gcap vs)(hkE:aW w B ks b1 vs)(hok:ks.ok)(htot:ks.tot≤1000000)(i:Nat)(hi:i < l.len)(hik:i < ks.len)(a2:Tm.Wd)(hu:(Fx.texts W l ks)[i]? =some (some a2)):
  ∀X fb,Below w.heap.size w X→bR U X rb fb A→Calls Tryz.prog 96 #[.map (some fb),.pointer (some ⟨gi,i * 13,none⟩),.pointer (some ⟨gb,i * 7,none⟩)] X (dh X a2):=by
 have hr1:=Fx.yQ hu;obtain⟨d2,r2,hd1,hd2⟩:=ks.cE i hik;obtain⟨g3,c3,bs3,b3,e1,e2,e3⟩:=aW.nd hkO hkE hd1;have ht2:d2.tot≤ks.tot:=by have:=ks.jt i;rw[hd1,fI]at this;omega
 have hok2:d2.ok:=by have:=ks.oB i hok;rw[hd1]at this;exact(pV this).1
 have hfd:=Tm.df i l hF;intro X fb hX hfm;have hUX:Below U.heap.size U X:=hU.trans (hX.mono hU.size);rw[hd1]at hr1;rcases Tm.cE l i hi with⟨h,r,hdr⟩|⟨a,c,bd,r,hdr⟩
 ·rw[hdr]at hr1 hfd;have f1:bc W h d2=some a2:=by unfold Nd.put at hr1;simp only[Fx.texts,List.getElem?_cons_zero]at hr1;injection hr1
  obtain⟨cv,hcv,hrow,hnx⟩:=Tm.bp.hd ho hen hdr;have hO:=DJ A W h hfd.1 (fun t ht=>hSt i h r t hdr ht);have hrX:=hrow.below hUX hrow.lt;cases hmb:Tm.ba h with
  |true=>exact se A W hWl h hO hmb U X rb fb B c3 gi (i * 13) gb (i * 7) cv g3 bs3 b3 d2 a2 hUX hfm hrX (e1.below hX e1.lt) (e2.below hX (Z5 _)) (e3.al _ _ _ (fun b hb=>hX.block b (e3.mem _ _ _ b hb).2)) hok2 (by omega) f1
  |false=>exact vI A W h hO hmb U X rb fb B c3 gi (i * 13) gb (i * 7) cv g3 bs3 b3 d2 a2 hUX hfm hrX (e1.below hX e1.lt) (e2.below hX (Z5 _)) (e3.al _ _ _ (fun b hb=>hX.block b (e3.mem _ _ _ b hb).2)) hok2 (by omega) f1
 ·rw[hdr]at hr1 hfd;obtain⟨cb,gc,capc,bsc,hxc,hoc,hec,hrow,hnx⟩:=Tm.bp.wh ho hen hdr;unfold Nd.put at hr1;simp only[Fx.texts,List.getElem?_cons_zero]at hr1;injection hr1 with hr1
  split at hr1
  ·cases hr1
  ·rename_i hno
   rw[not_or]at hno;exact sf A W bd (hW i a c bd r hdr) _ gb (i * 7) gi (i * 13) a d2 a2 U X rb fb B c3 capc gc g3 bsc bs3 b3 hUX hfm (Classical.not_not.1 hno.1) (Classical.not_not.1 hno.2) hr1 hoc hec (hrow.below hUX hrow.lt) (e1.below hX e1.lt) hok2.2 (by unfold Nd.tot at ht2;omega) (e2.below hX (Z5 _)) (e3.al _ _ _ (fun b hb=>hX.block b (e3.mem _ _ _ b hb).2))
namespace Fx
theorem join_cons{T:List (Option Tm.Wd)}{k b:Nat}{rest:Tm.Wd}(hk:k≤b)(hb:b < T.length)(h:dC ((T.drop k).take (b+1 - k))=some rest):∃a2 b2,T[k]? =some (some a2)∧dC ((T.drop (k+1)).take (b+1 - (k+1)))=some b2∧rest=a2++b2:=by
 have hkl:k < T.length:=by omega
 rw[List.drop_eq_getElem_cons hkl,show b+1 - k=(b+1 - (k+1))+1 by omega,List.take_succ_cons]at h;unfold dC at h;cases h1:T[k]with
 |none=>rw[h1]at h;cases h
 |some a2=>
  rw[h1]at h;cases h2:dC ((T.drop (k+1)).take (b+1 - (k+1)))with
  |none=>rw[h2]at h;cases h
  |some b2=>
   rw[h2]at h;injection h with h
   exact⟨a2,b2,by rw[Y1 hkl,h1],rfl,h.symm⟩
theorem DO{T:List (Option Tm.Wd)}{k b:Nat}{rest:Tm.Wd}(hk:b < k)(h:dC ((T.drop k).take (b+1 - k))=some rest):rest=[]:=by
 rw[show b+1 - k=0 by omega,List.take_zero]at h;cases h;rfl
end Fx
theorem B3(T:List (Option Tm.Wd))(w:World)(a:Option Addr)(n cap capi gcap gi gb ni i j:Nat)(u:Tm.Wd)(hni:ni≤100000)(hci:ni≤capi)(hcg:ni≤gcap)(hT:T.length=ni)(hj:j < ni)(hij:i≤j+1)(hu:u.length≤1000000)(hjo:Fx.dC ((T.drop i).take (j+1 - i))=some u)
  (hP:∀k a2 X,k < ni→T[k]? =some (some a2)→Below w.heap.size w X→Calls Tryz.prog 125 #[.slice a n cap,.pointer (some ⟨gi,k * 13,none⟩),.pointer (some ⟨gb,k * 7,none⟩)] X fun e w'=>Below X.heap.size X w'∧e= .returned (.tuple #[.string (aa a2),.nilIface])):
  Calls Tryz.prog 100 #[.agg #[.slice a n cap],.slice (some ⟨gi,0,none⟩) ni capi,.slice (some ⟨gb,0,none⟩) ni gcap,.int .i64 (i:Nat),.int .i64 (j:Nat)] w fun e w'=>Below w.heap.size w w'∧e= .returned (.tuple #[.string (aa u),.nilIface]):=by
 have HP:=hid hP;have HT:=hid hT;have HJ:=hid hjo;have HU:=hid hu;clear hP hT hjo hu;go_enter Tryz.func100,Tryz.ntmps100;go_wp2_with fail;go_loopw [12,13] (fun v12 v13 wr=>∃(k:Nat) (acc:Tm.Wd),v12= .string (aa acc)∧v13= .int .i64 (k:Nat)∧k≤j+1∧Hid (Below w.heap.size w wr∧ad wr w.heap.size 0 75 [.slice a n cap])∧Hid (∃rest,Fx.dC ((T.drop k).take (j+1 - k))=some rest∧u=acc++rest)) (fun _ v13 _=>j+1 - (intOf v13).toNat)
 case atStart=>exact⟨i,[],rfl,rfl,hij,hid ⟨(Y4 _ _).alloc (Z5 _) _,ad.new w 75 #[.slice a n cap]⟩,hid ⟨u,HJ.out,rfl⟩⟩
 case round=>
  obtain⟨k,acc,rfl,rfl,hk,HB,HQ⟩:=hrel;have c0:=HB.out.2.cell0 0 (by simp);simp only[Z0]at c0
  by_cases hkj:k≤j
  ·have q1:decide ((k:Int)≤(j:Int))=true:=Z9 (by omega);have q2:decide (k≤j)=true:=Z9 hkj;have hki:(k:Int)≤(j:Int):=by omega
   have hkn:(k:Int) < (ni:Int):=by omega
   have hkn2:k < ni:=by omega
   have hk0:(0:Int)≤(k:Int):=by omega
   obtain⟨rest,r1,r2⟩:=HQ.out;obtain⟨a2,b2,t1,t2,t3⟩:=Fx.join_cons hkj (by rw[HT.out];exact hj) r1;have hr:=HB.out.2;have HC:=hid (fun X (hX:Below w.heap.size w X)=>HP.out k a2 X hkn2 t1 hX);have HQ2:=hid (show Fx.dC ((T.drop (k+1)).take (j+1 - (k+1)))=some b2∧u=(acc++a2)++b2 from⟨t2,by rw[r2,t3,List.append_assoc]⟩);have hlen:(acc++a2).length≤u.length:=by rw[HQ2.out.2];simp
   have hss:=m7 (a:=acc) (b:=a2) (by rw[← Z7];have:=HU.out;omega);have hs2:¬(9223372036854775807 < acc.length+a2.length):=by rw[← Z7];have:=HU.out;omega
   have hs3:decide (9223372036854775807 < acc.length+a2.length)=false:=Y9 hs2;have HKJ:=hid hkj;have HKN:=hid hkn2;have HNI:=hid hni;have hS1:wr.drew.cell? ⟨w.heap.size,0,none⟩=some (.slice a n cap)∧Hid (Below w.heap.size w wr.drew):=⟨c0,hid HB.out.1.drew⟩;clear r1 r2 t1 t2 t3 hlen hr hk hkj;go_wp2_with fail;go_region_held3 (fun X=>X.cell? ⟨w.heap.size,0,none⟩=some (.slice a n cap)∧Hid (Below w.heap.size w X))
    (first
     |exact hS1
     |assumption)
    (first
     |(go_at_call 125;(with_reducible refine(HC.out _ ?_).mono ?_);(next=>exact hS1.2.out);(rintro e w5 ⟨hb5,rfl⟩);(have HB5:=hid (Below.trans (Y4 wr.heap.size wr).drew hb5));(have hr5:=HB.out.2.below HB5.out HB.out.2.lt);(have HR5:=hid hr5);(have k5:=hr5.cell0 0 (by simp));(simp only[Z0]at k5);(have hS5:w5.cell? ⟨w.heap.size,0,none⟩=some (.slice a n cap)∧Hid (Below w.heap.size w w5):=⟨k5,hid (HB.out.1.trans (HB5.out.mono HB.out.1.size))⟩)))
   all_goals
    go_wp2_with fail;go_roundw
    case rel=>exact⟨k+1,acc++a2,by first|rfl|rw[gz],by first|rfl|rw[ay HKN.out HNI.out],by have:=HKJ.out;omega,hid ⟨hS5.2.out,HR5.out⟩,hid ⟨b2,HQ2.out⟩⟩
    case measure=>(try rw[ay HKN.out HNI.out]);simp only[intOf];have:=HKJ.out;omega
  ·have q1:decide ((k:Int)≤(j:Int))=false:=Y9 (by omega);have q2:decide (k≤j)=false:=Y9 hkj;obtain⟨rest,r1,r2⟩:=HQ.out;have he:=Fx.DO (by omega) r1;have HE:=hid (show u=acc by rw[r2,he,List.append_nil]);clear r1 r2 he hk hkj;go_wp2_with fail;go_ret2;exact⟨HB.out.1,by rw[HE.out];rfl⟩
theorem vP{w:World}{B:Nat}:∀(l:Nds) (bl:List Nat) (vs:List Value),aW w B l bl vs→∀u∈vs,u.oneCell'=true
 | .nil,bl,vs,h,u,hu=>by rw[h.1]at hu;cases hu
 | .cons ..,bl,vs,h,u,hu=>by
  obtain⟨ga,cap,bs,us,b1,b2,_,_,_,rfl,h5⟩:=h;rcases List.mem_append.1 hu with h6|h6
  ·simp only[ae,List.mem_cons,List.not_mem_nil,or_false]at h6;rcases h6 with rfl|rfl|rfl|rfl|rfl|rfl|rfl <;> rfl
  ·exact vP _ _ _ h5 u h6
theorem yR(w:World)(B n cap:Nat)(a:Option Addr)(vs:List Value)(ho:an w B 28 7 a n cap vs)(h1:∀u∈vs,u.oneCell'=true)(hn:n≤100000):
  Calls Tryz.prog 76 #[.slice a n cap] w fun e w'=>Below w.heap.size w w'∧∃a' cap',e= .returned (.slice a' n cap')∧an w' w.heap.size 28 7 a' n cap' vs:=by
 have hcap:n≤cap:=aT ho;have HO:=hid ho;have HN:=hid hn;have H1:=hid h1;clear ho h1;cases a with
 |none=>
  obtain⟨rfl,rfl,h3⟩:=HO.out.aO;have hb:∀V,Sem.run Tryz.prog (binOp .eql 26 (.slice none 0 0) (.slice none 0 0)) V= .ok (.bool true) V:=fun V=>by kernel_rfl
  have HB:=hid hb;clear hb;go_enter Tryz.func76,Tryz.ntmps76;go_wp2_with fail;rw[HB.out];go_wp2_with fail;go_ret;exact⟨Y4 _ _,none,0,rfl,by rw[h3];exact an.nil _ _ _ _⟩
 |some x=>
  have hb:∀V,Sem.run Tryz.prog (binOp .eql 26 (.slice (some x) n cap) (.slice none 0 0)) V= .ok (.bool false) V:=fun V=>by kernel_rfl
  have HB:=hid hb;clear hb;go_enter Tryz.func76,Tryz.ntmps76;go_wp2_with fail;rw[HB.out];have hbA:=(Y4 w.heap.size w).alloc (Z5 _) (.cells #[] 28);have ho0:an (w.alloc (.cells #[] 28)) w.heap.size 28 7 (some ⟨w.heap.size,0,none⟩) 0 0 []:=an.Cx (n:=0) (cap:=0) (size:=7) (xs:=[]) rfl (w.alloc (.cells #[] 28)) w.heap.size #[] (Z5 _) (heap_alloc_new w _) rfl (Z5 _) (by decide) rfl;have hrd:=an.yj (HO.out.below hbA (Z5 _)) H1.out;have HOO:=hid ho0;have HRD:=hid hrd;have HSM:=hid (show 0+n≤maxLen∧(0+n) * 88≤140737488355328 from⟨by have:=HN.out;show 0+n≤9223372036854775807;omega,by have:=HN.out;omega⟩);clear hbA ho0 hrd;go_wp2_with (refine pM _ (by rfl) _ _ 26 (by rfl) w.heap.size 28 _ 7 88 (by rfl) eD rfl (by decide) (some ⟨w.heap.size,0,none⟩) 0 0 [] (by rfl) HOO.out (some x) n cap vs (by rfl) HRD.out HSM.out.1 HSM.out.2 (by simp) ?_;intro a4 c4 w4 ho4 hg4 hb4 hl4);go_ret;exact⟨((Y4 _ _).alloc (Z5 _) _).trans (hb4.mono (Z5 _)),a4,c4,rfl,by rw[Nat.zero_add]at ho4;simpa using ho4⟩
end
end Go.Proofs.YtlomecfhobehnaaGreatDoor
