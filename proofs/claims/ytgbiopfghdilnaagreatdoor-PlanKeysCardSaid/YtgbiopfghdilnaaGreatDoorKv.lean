/-
Texts of this proof,one behind the other. No conditions.
-/
import Derived.Test.YtgbiopfghdilnaaGreatDoorKd
import Derived.Test.YtgbiopfghdilnaaGreatDoorKu
import Derived.Test.YtgbiopfghdilnaaGreatDoorKt
import Derived.Test.YtgbiopfghdilnaaGreatDoorKp
import Derived.Test.YtgbiopfghdilnaaGreatDoorKs
open Go.Proofs.YtgbiopfghdilnaaGreatDoor.V renaming undef→Ka
open Go.Proofs.YtgbiopfghdilnaaGreatDoor.Hp renaming le_refl→Kb,set→Kc,same→Kf
open List renaming getD_eq_getElem?_getD→Kd,getElem?_eq_getElem→Ke,getElem_mem→Kg,getD_cons_zero→Kh,length_append→Ki,take_of_length_le→Kj,set_cons_zero→Kk,not_mem_nil→Km,mem_cons→Ko,map_nil→Kp,map→Kq
open Nat renaming zero_le→Ks,le_refl→Kt
open Nat renaming reduceAdd→jA,reduceSub→jB,reduceLT→jC,reduceLeDiff→jD,reduceEqDiff→jE
open Int renaming reduceToNat→jF,toNat_natCast→jG,natCast_add→jH,natCast_one→jI,natCast_zero→jJ
open List renaming length_map→jK,length_cons→jL,length_nil→jM,replicate_succ→jN,replicate_zero→jO,cons_append→jP,nil_append→jQ
set_option linter.unusedSimpArgs false
set_option linter.unusedVariables false
set_option linter.unusedSectionVars false
set_option maxHeartbeats 8000000
namespace Go.Proofs.YtgbiopfghdilnaaGreatDoor
open Go.RowKit Go.Sort
attribute [local irreducible] IntKind.wrap
set_option maxHeartbeats 4000000
theorem g7{t u w:Nat}{k1 k2:Sh}{n1 n2:Nat}{x1 x2:V}{R:V→Hp→Nat→Prop}{s:St}(h1:s.sl.getD t Ka= .ptr n1 k1 0 0)(h2:s.sl.getD u Ka= .ptr n2 k2 0 0)(m1:s.h n1=some (.arr k1 [x1]))(m2:s.h n2=some (.arr k2 [x2]))(f1:x1.fits k1=true)(f2:x2.fits k2=true)
 (h':Hp) (hle:h'.le s.h) (hR:R (.tup [x1,x2,s.sl.getD w Ka]) h' s.nx):rU [.cell t k1, .cell u k2, .slot w] R .ret s:=by
 simp only[rU,kF,wI.sem,aR.sem,aI.ev,h1,h2,m1,m2];refine⟨?_,Zm,eC _,?_,Zm,eC _,h',hle,?_⟩
 ·trivial
 ·trivial
 have e1:=bC f1;have e2:=bC f2;simp only[Kh,e1,e2];exact hR
def zS5:V:= .agg [.int .i64 0, .int .i64 0, .sl .leaf .nil [], .sl .leaf .nil [], .sl .leaf .nil []]
def wU:V:= .agg [.int .i64 0, .str ⟨#[]⟩, .sl (.agg 4) .nil [], .int .i64 0, .int .i64 0, .str ⟨#[]⟩, .int .i64 0, .int .i64 0, .str ⟨#[]⟩, .sl (.agg 6) .nil [], .int .i64 0, .str ⟨#[]⟩, .int .i64 0, .int .i64 0, .str ⟨#[]⟩, .sl (.agg 6) .nil [], .int .i64 0]
def stF(nx:Nat)(oS:Own)(PL:List V)(oB:Own)(BL:List V)(k si:Nat)(S X:V):List (Nat×Nat×V):=[(0,19, .ptr nx (.agg 7) 0 6),(1,20, .sl (.agg 5) oS PL),(2,21, .int .i64 k),(3,22, .ept (.agg 5) PL k 0),(4,23,S),(5,24, .ptr nx (.agg 7) 0 0),(6,25, .ptr nx (.agg 7) 0 4),(7,26, .sl (.agg 17) oB BL),(8,27, .ptr nx (.agg 7) 0 6),(9,28, .sl (.agg 5) oS PL),(10,29, .int .i64 k),(11,30, .ept (.agg 5) PL k 0),(12,31, .ept (.agg 5) PL k 1),(13,32, .int .i64 si),(14,33, .ept (.agg 17) BL si 0),(15,34,X),(18,6, .nilIface)]
def stX(nx k:Nat):List (Nat×V):=[(1, .int .i64 k),(2, .ptr nx (.agg 7) 0 0),(4, .ptr (nx+1) (.agg 5) 0 0),(5, .ptr (nx+2) (.agg 17) 0 0)]
structure StR(A:Hp)(nx:Nat)(oS:Own)(PL:List V)(oB:Own)(BL:List V)(k si:Nat)(S X:V)(D:Nat→Bool)(s:St):Prop where
 sl:RG (stF nx oS PL oB BL k si S X) (stX nx k) 35 D s.sl
 h1:s.h (nx+1)=some (.arr (.agg 5) [if D 16=true then S else zS5])
 h2:s.h (nx+2)=some (.arr (.agg 17) [if D 17=true then X else wU])
 ho:∀x,x≠nx+1→x≠nx+2→s.h x=A x
theorem StR.go{A:Hp}{nx:Nat}{oS:Own}{PL:List V}{oB:Own}{BL:List V}{k si:Nat}{S X:V}{D:Nat→Bool}{sl:List V}{h:Hp}{n:Nat}(r:StR A nx oS PL oB BL k si S X D ⟨sl,h,n⟩)(i t:Nat)(v:V)(m:Nat)(ht:t<35:=by decide)(hF:∀f∈stF nx oS PL oB BL k si S X,(f.1=i∨f.2.1=t)→f=(i,t,v):=by simp[stF])(hx:∀p∈stX nx k,p.1≠t:=by simp[stX])(h16:i≠16:=by decide)(h17:i≠17:=by decide):
 StR A nx oS PL oB BL k si S X (fun j=>if j=i then true else D j) ⟨sl.set t v,h,m⟩:=
 ⟨r.sl.slot i t v ht hF hx,by rw[if_neg h16.symm];exact r.h1,by rw[if_neg h17.symm];exact r.h2,r.ho⟩
def cr(R:Ru)(ps:List PS)(i:Int):V:=if 0≤i∧i<ps.length then .tup [(ps.getD i.toNat default).v,(R.b.getD (ps.getD i.toNat default).i default).v, .nilIface] else .tup [zS5,wU,dP 1]
theorem tG(R:Ru)(ps:List PS)(hp:ps.length≤1000)(hok:∀s∈ps,s.i<R.b.length)(i:Int)(h:Hp):aM Tryz.prog 56 [dJ R ps, .int .i64 i] h (cr R ps i):=by
 refine rT (fun L hL=>?_) fun h' nx hh=>aB L.aU4 fun hd=>?_
 ·have hR:bD L (R.b.map Li.v):=by
   have:=hL.1;simp only[dJ,V.names,bD] at this;exact this.2.2.2.2.1.2
  unfold cr;split
  ·rename_i hi;have hlt:i.toNat<ps.length:=or;have hD:ps.getD i.toNat default=ps[i.toNat]:=by rw[Kd,Ke hlt];rfl
   have hsi:=hok ps[i.toNat] (Kg _);rw[hD];generalize ps[i.toNat]=s at*;have hD2:R.b.getD s.i default=R.b[s.i]:=by rw[Kd,Ke hsi];rfl
   rw[hD2];exact⟨⟨trivial,trivial,cZ (fun L=>bB (f:=V.str) (fun _=>trivial) _) L,cZ (fun L=>bB (f:=V.str) (fun _=>trivial) _) L,cZ (fun L=>bB (f:=kV) (fun _=>trivial) _) L,trivial⟩,kK.1 hR _ (List.mem_map.2 ⟨_,Kg _,rfl⟩),trivial,trivial⟩
  simp[zS5,wU,V.names,bD,dO]
 have hd:aW h' nx:=hd;obtain⟨oS,hoS⟩:=cL (.agg 5) (ps.map PS.v);unfold dJ cr;rw[hoS];simp only[jL,jM,jA,jB,jN,jO,jP,jQ,Ka];by_cases hi:0≤i∧i<ps.length
 ·have g1:decide (i<0)=false:=dcf;have g2:decide ((ps.length:Int)≤i)=false:=dcf;have g3:decide (i≥(ps.length:Int))=false:=dcf;rw[if_pos hi];obtain⟨k,hk⟩:∃k:Nat,i=k:=⟨i.toNat,or⟩;subst hk;have hk:k<ps.length:=or;rw[jG];have hg:=aN PS.v ps k hk;have hD:ps.getD k default=ps[k]:=by rw[Kd,Ke hk];rfl
  have hsi:=hok ps[k] (Kg _);rw[hD];generalize ps[k]=s at*;have hg2:=aN Li.v R.b s.i hsi;have hD2:R.b.getD s.i default=R.b[s.i]:=by rw[Kd,Ke hsi];rfl
  rw[hD2];generalize R.b[s.i]=x at*;have hsf:=PS.aAD s;have hxf:=Li.aAD x;have hs1:s.v.cell 1= .int .i64 s.i:=rfl;generalize s.v=S at*;generalize x.v=X at*;generalize s.i=s0i at*;refine aue (e14 g1 g2 g3 hg hk hsf hxf hs1 hg2 hsi trs.eq_1 (@jK PS V) (@jK Li V) jG) ?_;obtain⟨PA,hPA⟩:∃PA,[V.agg [V.str R.h.r,V.sl (Sh.agg 4) R.h.o (Kq Tr.v R.h.l),V.int IntKind.i64 R.g,V.int IntKind.i64 R.c,V.sl (Sh.agg 17) R.o (Kq Li.v R.b),V.int IntKind.i64 R.at_,V.sl (Sh.agg 5) oS (Kq PS.v ps)]]=PA:=⟨_,rfl⟩;rw[hPA];generalize hA:Kc _ _ _=A;have a0:A nx=some (.arr (.agg 7) PA):=by rw[←hA];simp only[go_sem,reduceIte,jA,jB,jC,jD,reduceCtorEq,jE,jF]
  have a1:A (nx+1)=some (.arr (.agg 5) [zS5]):=by rw[←hA];simp only[go_sem,reduceIte,jA,jB,jC,jD,reduceCtorEq,jE,jF];rfl
  have a2:A (nx+2)=some (.arr (.agg 17) [wU]):=by rw[←hA];simp only[go_sem,reduceIte,jA,jB,jC,jD,reduceCtorEq,jE,jF];rfl
  have hle:∀x,x<nx→A x=h' x:=fun x hx=>by rw[←hA];simp only[Kc];repeat rw[if_neg or]
  clear hA;have hp4:(PA.getD 0 (.tup [])).cell 4= .sl (.agg 17) R.o (R.b.map Li.v):=by rw[←hPA];rfl
  have hp6:(PA.getD 0 (.tup [])).cell 6= .sl (.agg 5) oS (ps.map PS.v):=by rw[←hPA];rfl
  have hp1:PA.length=1:=by rw[←hPA];rfl
  clear hPA;have hgS:=hg;have hml:(ps.map PS.v).length=ps.length:=jK ..;have aVw:(R.b.map Li.v).length=R.b.length:=jK ..;generalize ps.map PS.v=PL at*;generalize R.b.map Li.v=BL at*;have l6:aX .leaf 6 (PA.getD 0 Ka)= .sl (.agg 5) oS PL:=hp6;have l4:aX .leaf 4 (PA.getD 0 Ka)= .sl (.agg 17) R.o BL:=hp4;have lS:aX (.agg 5) 0 (PL.getD k Ka)=S:=by rw[show PL.getD k Ka=S from hg];exact bC hsf
  have lI:aX .leaf 1 (PL.getD k Ka)= .int .i64 s0i:=by rw[show PL.getD k Ka=S from hg];exact hs1
  have lX:aX (.agg 17) 0 (BL.getD s0i Ka)=X:=by rw[show BL.getD s0i Ka=X from hg2];exact bC hxf
  refine pJ ?_;refine⟨fun D s=>StR A nx oS PL R.o BL k s0i S X D s,⟨⟨rfl,?_,fun f _ e=>by cases e⟩,a1,a2,fun _ _ _=>rfl⟩,?_,?_⟩
  ·intro p hp;simp only[stX,Ko,Km,or_false] at hp;rcases hp with rfl|rfl|rfl|rfl<;>rfl
  ·rintro D i oo aAF ⟨sl,hq,n2⟩ hi hDi aA4 hcl r;have x1:=r.sl.fx (1, .int .i64 k) (by simp[stX]);have x2:=r.sl.fx (2, .ptr nx (.agg 7) 0 0) (by simp[stX]);have x4:=r.sl.fx (4, .ptr (nx+1) (.agg 5) 0 0) (by simp[stX]);have x5:=r.sl.fx (5, .ptr (nx+2) (.agg 17) 0 0) (by simp[stX]);have y:∀f∈stF nx oS PL R.o BL k s0i S X,f.1∈aAF→sl.getD f.2.1 Ka=f.2.2:=fun f hf hd=>r.sl.dn f hf (aA4 _ hd);have h0:hq nx=some (.arr (.agg 7) PA):=(r.ho nx or or).trans a0;have r1:=r.h1;have r2:=r.h2;dsimp only at x1 x2 x4 x5 r1 r2;rcases i with _|_|_|_|_|_|_|_|_|_|_|_|_|_|_|_|_|_|_|i;all_goals first|(injection hi with hi;injection hi with q1 q2;subst q1;subst q2)|skip
   all_goals simp only[stF,Ko,Km,or_false,forall_eq_or_imp,forall_eq,jE,reduceCtorEq,false_implies,implies_true,true_or,or_true,true_implies,and_true,true_and] at y
   all_goals simp only[aT,LOp.run,LOp.sem,aR.sem,aI.ev,bF,x1,x2,x4,x5,y,h0,V.pick,l4,l6,lS,lI,lX,jG]
   ·exact r.go 0 19 _ _
   ·exact⟨trivial,or,by simp[bU],r.go 1 20 _ _⟩
   ·exact r.go 2 21 _ _
   ·exact⟨trivial,or,or,r.go 3 22 _ _⟩
   ·exact⟨or,eC _,r.go 4 23 _ _⟩
   ·exact r.go 5 24 _ _
   ·exact r.go 6 25 _ _
   ·exact⟨trivial,or,by simp[bU],r.go 7 26 _ _⟩
   ·exact r.go 8 27 _ _
   ·exact⟨trivial,or,by simp[bU],r.go 9 28 _ _⟩
   ·exact r.go 10 29 _ _
   ·exact⟨trivial,or,or,r.go 11 30 _ _⟩
   ·exact r.go 12 31 _ _
   ·exact⟨or,by simp[bU],r.go 13 32 _ _⟩
   ·exact⟨trivial,or,or,r.go 14 33 _ _⟩
   ·exact⟨or,eC _,r.go 15 34 _ _⟩
   ·rw[if_neg (by rw[hDi];simp)] at r1;rw[r1];refine⟨rfl,Zm,eC _,hsf,r.sl.none 16 (by simp[stF]),?_,?_,fun x q1 q2=>?_⟩
    ·simp only[Kc,if_true,Kh,Kk];rw[eU (show zS5.fits (.agg 5)=true from rfl) hsf]
    ·simp only[Kc];rw[if_neg or];exact r2
    simp only[Kc];rw[if_neg q1];exact r.ho x q1 q2
   ·rw[if_neg (by rw[hDi];simp)] at r2;rw[r2];refine⟨rfl,Zm,eC _,hxf,r.sl.none 17 (by simp[stF]),?_,?_,fun x q1 q2=>?_⟩
    ·simp only[Kc];rw[if_neg or];exact r1
    ·simp only[Kc,if_true,Kh,Kk];rw[eU (show wU.fits (.agg 17)=true from rfl) hxf]
    simp only[Kc];rw[if_neg q2];exact r.ho x q1 q2
   ·exact r.go 18 6 _ _
   simp[L.aEE] at hi
  rintro D ⟨sl,H,n2⟩ hD r;have d:=fun i (h:i<19)=>hD i h;have x6:=r.sl.dn (18,6, .nilIface) (by simp[stF]) (d 18 or);have x4:=r.sl.fx (4, .ptr (nx+1) (.agg 5) 0 0) (by simp[stX]);have x5:=r.sl.fx (5, .ptr (nx+2) (.agg 17) 0 0) (by simp[stX]);have r1:=r.h1;have r2:=r.h2;have ro:=r.ho;rw[if_pos (d 16 or)] at r1;rw[if_pos (d 17 or)] at r2;dsimp only at x4 x5 x6 r1 r2 ro;refine bM ?_;refine aP ?_;refine cT ?_;refine g7 x4 x5 r1 r2 hsf hxf h' (fun m b e=>?_) ⟨?_,rfl⟩
  ·have:=hd _ _ e;exact((ro m or or).trans (hle m this)).trans e
  rw[x6]
 rw[if_neg hi];by_cases h0:i<0
 ·have g1:decide (i<0)=true:=dct;refine aue (e3 g1 trs.eq_1 (@jK PS V)) ?_;exact g7 (n1:=nx+1) (n2:=nx+2) rfl rfl (by simp only[go_sem,reduceIte,jA,jB,jC,jD,reduceCtorEq,jE,jF];rfl) (by simp only[go_sem,reduceIte,jA,jB,jC,jD,reduceCtorEq,jE,jF];rfl) rfl rfl h' (leo hd) ⟨rfl,rfl⟩
 have g1:decide (i<0)=false:=dcf;have g2:decide ((ps.length:Int)≤i)=true:=dct;have g3:decide (i≥(ps.length:Int))=true:=dct;refine aue (e5 g1 g2 g3 trs.eq_1 (@jK PS V)) ?_;exact g7 (n1:=nx+1) (n2:=nx+2) rfl rfl (by simp only[go_sem,reduceIte,jA,jB,jC,jD,reduceCtorEq,jE,jF];rfl) (by simp only[go_sem,reduceIte,jA,jB,jC,jD,reduceCtorEq,jE,jF];rfl) rfl rfl h' (leo hd) ⟨rfl,rfl⟩
set_option maxHeartbeats 4000000
structure PlS(R:Ru)(s:PS):Prop where
 li:s.i<R.b.length
 nd:s.hv.Nodup
 hl:s.hv.length≤1000000000
 wl:s.wt.length≤1000000000
 kl:s.ky.length≤6
 kc:∀c∈s.ky,c<(R.b.getD s.i default).a.l.length
 rl:cF (R.b.getD s.i default)=true
 kd:s.k=(R.b.getD s.i default).k
 al:(R.b.getD s.i default).a.l.length≤6
def xz(R:Ru)(ps:List PS):Prop:=ps.length≤1000∧∀s∈ps,PlS R s
def dS(ps:List PS)(i:Int):PS:=ps.getD i.toNat default
def mL(R:Ru)(ps:List PS)(i:Int):Li:=R.b.getD (dS ps i).i default
def BV(R:Ru)(ps:List PS)(i:Int):List Tr:=(dS ps i).ky.map fun c=>(mL R ps i).a.l.getD c default
def yS(R:Ru)(ps:List PS)(i:Int)(row:List Vl):List Vl×Int:=
 if¬(0≤i∧i<ps.length)∨(dS ps i).k=3 then ([],1) else if (dS ps i).hv.length≠row.length then ([],6) else lH (iS (dS ps i).hv row) [] (BV R ps i)
def mW(R:Ru)(ps:List PS)(i:Int)(t:List Vl):List Vl×Int:=
 if¬(0≤i∧i<ps.length)∨(dS ps i).k≠1 then ([],1) else if t.length≠(mL R ps i).a.l.length then ([],6) else (gS t (dS ps i).ky,0)
def mkR(p:List Vl×Int):V:= .tup [.sl (.agg 3) (okO p.2 .free) (p.1.map Vl.v),dP p.2]
theorem dw(p:List Vl×Int)(L:Nat→Prop):(mkR p).names L:=vT _ _ L
theorem mG{ps:List PS}{i:Int}(h:0≤i∧i<ps.length):dS ps i∈ps:=by
 unfold dS;rw[Kd,Ke or];exact Kg _
theorem kj(R:Ru)(ps:List PS)(hp:xz R ps)(i:Int)(o:Own)(t:List Vl)(h:Hp):aM Tryz.prog 25 [dJ R ps, .int .i64 i,vls o t] h (mkR (mW R ps i t)):=by
 refine aJ (fun L=>dw _ L) fun h' nx hh=>aB L.aVS fun hd=>?_;simp only[jL,jM,jA,jB,jN,jO,jP,jQ,Ka];have C1:=fun h=>tG R ps hp.1 (fun s hs=>(hp.2 s hs).li) i h;have hPf:(dJ R ps).fits (.agg 7)=true:=by
  obtain⟨oS,hoS⟩:=cL (.agg 5) (ps.map PS.v);unfold dJ;rw[hoS];rfl
 generalize dJ R ps=PV at*;unfold mW cr at*;by_cases hi:0≤i∧i<ps.length
 ·have hs:=hp.2 _ (mG hi);simp only[if_pos hi] at C1;have e1:ps.getD i.toNat default=dS ps i:=rfl;have e2':R.b.getD (dS ps i).i default=mL R ps i:=rfl;rw[e1,e2'] at C1;have q1:=hs.kl;have q2:=hs.kc;rw[e2'] at q2;generalize dS ps i=s at*;generalize mL R ps i=x at*;have hsf:=PS.aAD s;have hxf:=Li.aAD x;obtain⟨o5,ho5⟩:=cL .leaf (s.ky.map kV);obtain⟨T,hT,hk0,hk4⟩:∃T,s.v= .agg T∧T.getD 0 (.tup [])= .int .i64 s.k∧T.getD 4 (.tup [])= .sl .leaf o5 (s.ky.map kV):=⟨_,rfl,rfl,ho5⟩;obtain⟨X,hX,hx2⟩:∃X,x.v= .agg X∧X.getD 2 (.tup [])= .sl (.agg 4) x.a.o (x.a.l.map Tr.v):=⟨_,rfl,rfl⟩;rw[hT] at C1 hsf;rw[hX] at C1 hxf;have hv:veq (mS.iface true) V.nilIface V.nilIface=some true:=rfl;by_cases hk1:s.k=1
  ·have g1:(s.k != 1)=false:=bnf;rw[if_neg (by simp[hi,hk1])];by_cases hlt:t.length=x.a.l.length
   ·have g2:((t.length:Int) != (x.a.l.length:Int))=false:=bnf;have C2:=fun h=>u9 o o5 t s.ky q1 (by rw[hlt];exact q2) h;rw[if_neg (by simpa using hlt)];refine aue (e11 hPf hsf hxf hk0 hk4 hx2 hv g1 g2 (@jK Vl V) (@jK Tr V)) ?_;exact aV h' (leo hd) ⟨rfl,rfl⟩
   have g2:((t.length:Int) != (x.a.l.length:Int))=true:=bnt;rw[if_pos hlt];refine aue (e11 hPf hsf hxf hk0 hk4 hx2 hv g1 g2 (@jK Vl V) (@jK Tr V)) ?_;exact aV h' (leo hd) ⟨rfl,rfl⟩
  have g1:(s.k != 1)=true:=bnt;rw[if_pos (.inr hk1)];refine aue (e8 hPf hsf hxf hk0 hk4 hx2 hv g1) ?_;exact aV h' (leo hd) ⟨rfl,rfl⟩
 simp only[if_neg hi] at C1;rw[if_pos (.inl hi)];have hv:veq (mS.iface true) (dP 1) V.nilIface=some false:=rfl;have f5:zS5.fits (.agg 5)=true:=rfl;have f17:wU.fits (.agg 17)=true:=rfl;generalize zS5=Z5 at*;generalize wU=Z17 at*;refine aue (e4 hPf f5 f17 hv) ?_;exact aV h' (leo hd) ⟨rfl,rfl⟩
theorem qc(R:Ru)(ps:List PS)(hp:xz R ps)(i:Int)(o:Own)(row:List Vl)(h:Hp):aM Tryz.prog 24 [dJ R ps, .int .i64 i,vls o row] h (mkR (yS R ps i row)):=by
 refine dV (fun L=>dw _ L) fun h' nx hh=>aB L.aVT fun hd=>?_;have hd:aW h' nx:=hd;simp only[jL,jM,jA,jB,jN,jO,jP,jQ,Ka];have C1:=fun h=>tG R ps hp.1 (fun s hs=>(hp.2 s hs).li) i h;have hPf:(dJ R ps).fits (.agg 7)=true:=by
  obtain⟨oS,hoS⟩:=cL (.agg 5) (ps.map PS.v);unfold dJ;rw[hoS];rfl
 generalize dJ R ps=PV at*;unfold yS cr at*;by_cases hi:0≤i∧i<ps.length
 ·have hs:=hp.2 _ (mG hi);simp only[if_pos hi] at C1;have e1:ps.getD i.toNat default=dS ps i:=rfl;have e2':R.b.getD (dS ps i).i default=mL R ps i:=rfl;rw[e1,e2'] at C1;have q1:=hs.kl;have q2:=hs.kc;have q3:=hs.nd;have q4:=hs.hl;rw[e2'] at q2;unfold BV;generalize dS ps i=s at*;generalize mL R ps i=x at*;have hsf:=PS.aAD s;have hxf:=Li.aAD x;obtain⟨o2,ho2⟩:=cL .leaf (s.hv.map V.str);obtain⟨o5,ho5⟩:=cL .leaf (s.ky.map kV);obtain⟨T,hT,hk0,hk2,hk4⟩:∃T,s.v= .agg T∧T.getD 0 (.tup [])= .int .i64 s.k∧T.getD 2 (.tup [])= .sl .leaf o2 (s.hv.map V.str)∧T.getD 4 (.tup [])= .sl .leaf o5 (s.ky.map kV):=⟨_,rfl,rfl,ho2,ho5⟩;obtain⟨X,hX,hx2⟩:∃X,x.v= .agg X∧X.getD 2 (.tup [])= .sl (.agg 4) x.a.o (x.a.l.map Tr.v):=⟨_,rfl,rfl⟩;rw[hT] at C1 hsf;rw[hX] at C1 hxf;have hv:veq (mS.iface true) V.nilIface V.nilIface=some true:=rfl;by_cases hk3:s.k=3
  ·have g1:(s.k==3)=true:=bqt;rw[if_pos (.inr hk3)];refine aue (e7 hPf hsf hxf hk0 hx2 hv g1) ?_;exact aV h' (leo hd) ⟨rfl,leo hd⟩
  have g1:(s.k==3)=false:=bqf;rw[if_neg (by simp[hi,hk3])];refine aue (e10 hPf hsf hxf hk0 hk2 hk4 hx2 hv g1 (@jK Nat V)) ?_;refine bG ((xY o2 o s.hv row q3 q4 _ _).dom.mono ?_);rintro v h2 nx2 aAd ⟨⟨aBT,aCo⟩,hd2,_⟩;unfold cN;dsimp only at aBT aCo;by_cases hlr:s.hv.length=row.length
  ·rw[if_pos hlr] at aBT;rw[if_neg (by simpa using hlr)];obtain⟨m,es,c,rfl,p1,p2,p3,p4⟩:=aBT;refine Zn ?_;have hb1:h2 (nx+1)=some (.arr (.agg 5) [.agg T]):=by rw[aCo (nx+1) or];simp only[go_sem,reduceIte,jA,jB,jC,jD,reduceCtorEq,jE,jF]
   have hb2:h2 (nx+2)=some (.arr (.agg 17) [.agg X]):=by rw[aCo (nx+2) or];simp only[go_sem,reduceIte,jA,jB,jC,jD,reduceCtorEq,jE,jF]
   have aBZ:Kf nx h' h2:=fun k hk=>by
    rw[aCo k or];simp only[Kc];repeat rw[if_neg or]
   have n1:nx+1<nx2:=or;have n2:nx+2<nx2:=or;have hcap:s.ky.length*32≤140737488355328:=or;obtain⟨KT,hKT⟩:∃KT,s.ky.map (fun c=>x.a.l.getD c default)=KT:=⟨_,rfl⟩;have hKl:KT.length=s.ky.length:=by rw[←hKT,jK]
   rw[hKT];generalize iS s.hv row=B at*;have hpa:=p4.at
   refine aue (e11 hv hb1 hb2 n1 n2 hk4 hsf hcap (@jK Nat V) jG hx2) ?_;generalize hRC:lP (lwp Tryz.prog _) _=RC
   refine aS (fun q:Nat×Nat×List Vl=>aF 73 0 [(6, .sl (.agg 3) .nil []),(7, .nilIface),(9, .ptr (nx+2) (.agg 17) 0 0),(11, .map m),(12, .rs q.2.1 (.agg 3) 0 q.2.2.length),(47, .sl .leaf o5 (s.ky.map kV)),(48, .int .i64 s.ky.length),(49, .int .i64 q.1)])
    (fun q hp nx1=>q.1≤s.ky.length∧nx2<nx1∧aW hp nx1∧(∀k,k<nx2→hp k=h2 k)∧(nx2≤q.2.1∧hp q.2.1=some (.arr (.agg 3) (q.2.2.map Vl.v)))∧lH B [] KT=lH B q.2.2 (KT.drop q.1)∧q.2.2.length≤q.1)
    (fun q=>s.ky.length-q.1) (0,nx2,[]) ⟨Ks _,Zw,by exact dmo hd2,fun k hk=>by simp only[Kc];rw[if_neg or],⟨Kt _,by simp only[Kp,go_sem,reduceIte,jA,jB,jC,jD,reduceCtorEq,jE,jF]⟩,rfl,Ks _⟩ (by simp only[WkL,aF,jH,jI,jJ,jM,jK,go_sem,reduceIte,jA,jB,jC,jD,reduceCtorEq,jE,jF]) ?_
   rintro⟨j,id,acc⟩ hp nx1 ⟨hj,hnx,hdm,hsm,⟨aGF,hid⟩,hmk,hlen⟩;generalize hQ:bK _ _ _ _ _=Q0;dsimp only at hj hid hmk hlen aGF;simp only[aF,go_sem,reduceIte,jA,jB,jC,jD,reduceCtorEq,jE,jF];have aCp:id<nx1:=hdm _ _ hid;have aTQ:=(hsm (nx+2) n2).trans hb2;have hme:=(hsm m p2).trans p3;have m2:nx+2<nx1:=or;have mm:m<nx1:=or;have aFl:Kf nx h' hp:=fun k hk=>(hsm k or).trans (aBZ k hk);have hle:=aFl.le hd (Kb _);rcases Nat.lt_or_ge j s.ky.length with hlt|hge
   ·have hc:decide ((j:Int)<(s.ky.length:Int))=true:=dct;have hg:=aN kV s.ky j hlt;have hw:IntKind.i64.wrap ((j:Int)+1)=((j+1:Nat):Int):=wrp;have hkc:=q2 s.ky[j] (Kg _);have hdr:KT.drop j=x.a.l[s.ky[j]]::KT.drop (j+1):=by
     rw[List.drop_eq_getElem_cons or];congr 1;simp only[←hKT,List.getElem_map];rw[Kd,Ke hkc];rfl
    rw[hdr] at hmk;have hg2:=aN Tr.v x.a.l s.ky[j] hkc;generalize x.a.l[s.ky[j]]=T0 at hg2 hmk;generalize s.ky[j]=cc at*;have hg:(s.ky.map kV).getD j (.tup [])= .int .i64 (cc:Int):=hg;have hTf:=Tr.aAD T0;have hVf:=Vl.aAD (cO T0 B).1;refine aue (e13 hc hg hlt hme mm aTQ m2 hx2 hg2 hkc hTf (@jK Nat V) (e3 (@jK Tr V) jG hw)) ?_;refine aH (rB T0 B m es c _ (by simp only[hme,mm,go_sem,reduceIte,jA,jB,jC,jD,reduceCtorEq,jE,jF]) hpa) rfl (aK _) ?_;refine Zn ?_;rw[nA] at hmk;by_cases hz:(cO T0 B).2=0
    ·rw[if_neg (by simp[hz])] at hmk;rw[hz];have hml:(acc.map Vl.v).length=acc.length:=jK ..;have htk:(acc.map Vl.v).take acc.length=acc.map Vl.v:=Kj Zm;have aM3:acc.length≤1000000:=or;refine aue (e9 Ai hVf hw hid aCp hml htk aM3 hc) ?_;rw[←hQ];have aTD:∀k,k<nx2→∀b1 b2 b3 b4,(((((hp.set nx1 b1).set nx1 b2).set (nx1+2) b3).del id).set (nx1+3) b4) k=h2 k:=fun k hk b1 b2 b3 b4=>by
      simp only[Kc,Hp.del];repeat rw[if_neg or]
      exact hsm k hk
     exact aG (j+1,nx1+3,acc++[(cO T0 B).1]) Zw ⟨hlt,or,dmo hdm,fun k hk=>aTD k hk _ _ _ _,⟨Zw,by simp only[List.map_append,List.map_cons,Kp,go_sem,reduceIte,jA,jB,jC,jD,reduceCtorEq,jE,jF]⟩,hmk,by dsimp only;rw[Ki];simp only[jL,jM];omega⟩ (by simp only[WkL,aF,jH,jI,jJ,Ki,jL,jM,go_sem,reduceIte,jA,jB,jC,jD,reduceCtorEq,jE,jF])
    rw[if_pos hz] at hmk;have hev:dP (cO T0 B).2= .iface 100 (.int .i64 (cO T0 B).2):=by unfold dP;rw[if_neg hz]
    refine aue (e2 hev hVf) ?_;rw[←hQ,←hRC];refine au ?_;refine aV _ (Kb _) ⟨?_,lef hd hle⟩;rw[hmk];unfold mkR okO;rw[if_neg hz,hev];rfl
   have hc:decide ((j:Int)<(s.ky.length:Int))=false:=dcf;refine aue hc ?_;rw[←hQ];refine au ?_;rw[List.drop_of_length_le or] at hmk;simp only[lH] at hmk;rw[←hRC];refine fF (iI (t:=12) (n:=id) (k:= .agg 3) (off:=0) (len:=acc.length) (es:=acc.map Vl.v) rfl hid Zm) ?_;have htk:(List.drop 0 (acc.map Vl.v)).take acc.length=acc.map Vl.v:=by rw[List.drop_zero];exact Kj Zm
   rw[htk];refine au ?_;refine aV _ (Kb _) ⟨?_,?_⟩
   ·rw[hmk];rfl
   refine fun q b e=>?_;have:=hd _ _ e;simp only[Hp.del];rw[if_neg or];exact hle q b e
  rw[if_neg hlr] at aBT;rw[if_pos hlr];subst aBT;have hv6:veq (mS.iface true) (dP 6) V.nilIface=some false:=rfl;refine aue hv6 ?_;refine aV _ (Kb _) ⟨rfl,Hp.same.le (fun k hk=>?_) hd (Kb _)⟩;refine(aCo k or).trans ?_;simp only[Kc];repeat rw[if_neg or]
 simp only[if_neg hi] at C1;rw[if_pos (.inl hi)];have hv:veq (mS.iface true) (dP 1) V.nilIface=some false:=rfl;have f5:zS5.fits (.agg 5)=true:=rfl;have f17:wU.fits (.agg 17)=true:=rfl;generalize zS5=Z5 at*;generalize wU=Z17 at*;refine aue (e4 hPf f5 f17 hv) ?_;exact aV h' (leo hd) ⟨rfl,leo hd⟩
set_option maxHeartbeats 4000000
def goB(s:PS)(x:Li)(t:List Vl)(l:List Tr):Option (List Tr)×Int:=
 if s.k=1 then (dz x.a t l,0)
 else if s.k=2 then (if (lJ x.a l).2≠0∨qX (lJ x.a l).1 t=0 then (none,(lJ x.a l).2) else (some l,0))
 else gp l x
def nO(R:Ru)(ps:List PS)(i:Int)(row t:List Vl):List Vl×Bool×Int:=
 if¬(0≤i∧i<ps.length) then ([],false,1) else if (dS ps i).hv.length≠row.length then ([],false,6) else
 match (goB (dS ps i) (mL R ps i) t (iS (dS ps i).hv row)).1 with
 |none=>([],false,(goB (dS ps i) (mL R ps i) t (iS (dS ps i).hv row)).2)
 |some l=>(jS l (dS ps i).wt,true,0)
def mkX(p:List Vl×Bool×Int):V:= .tup [.sl (.agg 3) (if p.2.1=true then .free else .nil) (p.1.map Vl.v), .bool p.2.1,dP p.2.2]
theorem vq(p:List Vl×Bool×Int)(L:Nat→Prop):(mkX p).names L:=by
 refine⟨⟨fun n e=>?_,bB (fun x=>Vl.aAQ L x) _⟩,trivial,dO L _,trivial⟩;split at e<;>cases e
theorem d5(l:List Tr):∀(ts:List Tr) (acc:List Vl),(lH l acc ts).1.length≤acc.length+ts.length
 | [],acc=>Kt _
 |t::r,acc=>by
  rw[nA];split
  ·simp
  have:=d5 l r (acc++[(cO t l).1]);simp only[Ki,jL,jM] at this⊢;omega
theorem v8(a:Am)(l:List Tr):(lJ a l).1.length≤a.l.length:=by
 unfold lJ;split
 ·simp
 have:=d5 l a.l [];simpa using this
theorem qb(R:Ru)(ps:List PS)(hp:xz R ps)(i:Int)(o ot:Own)(row t:List Vl)(ht:t.length≤1000000)(h:Hp):aM Tryz.prog 22 [dJ R ps, .int .i64 i,vls o row,vls ot t] h (mkX (nO R ps i row t)):=by
 refine aJ (fun L=>vq _ L) fun h' nx hh=>aB L.aVa fun hd=>?_;have hd:aW h' nx:=hd;simp only[jL,jM,jA,jB,jN,jO,jP,jQ,Ka];have C1:=fun h=>tG R ps hp.1 (fun s hs=>(hp.2 s hs).li) i h;have hPf:(dJ R ps).fits (.agg 7)=true:=by
  obtain⟨oS,hoS⟩:=cL (.agg 5) (ps.map PS.v);unfold dJ;rw[hoS];rfl
 generalize dJ R ps=PV at*;unfold nO cr at*;by_cases hi:0≤i∧i<ps.length
 ·have hs:=hp.2 _ (mG hi);simp only[if_pos hi] at C1;rw[if_neg (fun e=>e hi)];have e1:ps.getD i.toNat default=dS ps i:=rfl;have e2':R.b.getD (dS ps i).i default=mL R ps i:=rfl;rw[e1,e2'] at C1;have q3:=hs.nd;have q4:=hs.hl;have q5:=hs.wl;have q6:=hs.rl;have q7:=hs.kd;have q8:=hs.al;rw[e2'] at q6 q7 q8;generalize dS ps i=s at*;generalize mL R ps i=x at*;have hsf:=PS.aAD s;have hxf:=Li.aAD x;obtain⟨o2,ho2⟩:=cL .leaf (s.hv.map V.str);obtain⟨o3,ho3⟩:=cL .leaf (s.wt.map V.str);obtain⟨T,hT,hk0,hk2,hk3⟩:∃T,s.v= .agg T∧T.getD 0 (.tup [])= .int .i64 s.k∧T.getD 2 (.tup [])= .sl .leaf o2 (s.hv.map V.str)∧T.getD 3 (.tup [])= .sl .leaf o3 (s.wt.map V.str):=⟨_,rfl,rfl,ho2,ho3⟩;obtain⟨X,hX,hat⟩:∃X,x.v= .agg X∧(X.drop 1).take 2=[.str x.a.r,trs x.a.o x.a.l]:=⟨_,rfl,rfl⟩;have hlp:aX (.agg 2) 1 (.agg X)=x.a.v:=congrArg V.agg hat
  have CS:=fun h3 h nx l n es c hm he=>i6 l x q6 h3 n es c h nx hm he;rw[hX] at CS C1 hxf;rw[hT] at C1 hsf;have hv:veq (mS.iface true) V.nilIface V.nilIface=some true:=rfl;refine aue (e7 hPf hsf hxf hk0 hk2 hv hlp) ?_;refine bG ((xY o2 o s.hv row q3 q4 _ _).dom.mono ?_);rintro v h2 nx2 aAd ⟨⟨aBT,aCo⟩,hd2,_⟩;unfold cN;dsimp only at aBT aCo;have aBZ:Kf nx h' h2:=fun k hk=>by
   rw[aCo k or];simp only[Kc];repeat rw[if_neg or]
  by_cases hlr:s.hv.length=row.length
  ·rw[if_pos hlr] at aBT;rw[if_neg (by simpa using hlr)];obtain⟨m,es,c,rfl,p1,p2,p3,p4⟩:=aBT;refine Zn ?_;have hb1:h2 (nx+1)=some (.arr (.agg 5) [.agg T]):=by rw[aCo (nx+1) or];simp only[go_sem,reduceIte,jA,jB,jC,jD,reduceCtorEq,jE,jF]
   have hb2:h2 (nx+2)=some (.arr (.agg 17) [.agg X]):=by rw[aCo (nx+2) or];simp only[go_sem,reduceIte,jA,jB,jC,jD,reduceCtorEq,jE,jF]
   have n1:nx+1<nx2:=or;have n2:nx+2<nx2:=or;generalize iS s.hv row=B at*;have hml:(lJ x.a B).1.length≤1000000000:=by have:=v8 x.a B;omega
   obtain⟨RES,aBW⟩:∃r,goB s x t B=r:=⟨_,rfl⟩;rw[aBW];clear aCo C1;rcases xR q6 with hk|hk|hk
   ·rw[←q7] at hk;have g1:(s.k==1)=true:=bqt;refine aue (e9 hv hb1 n1 hsf hk0 g1 hb2 n2 (e2 hlp hxf)) ?_;refine bG ((od x.a or ot t B m es c h2 nx2 p3 p4).dom.mono ?_);rintro v h3 nx3 aEA ⟨⟨q,aEB⟩,hd3,_⟩;unfold cN;unfold goB at aBW;rw[if_pos hk] at aBW;subst aBW;dsimp only;cases hM:dz x.a t B with
    |none=>
     rw[hM] at q;have q:v= .tup [.aAH, .bool false]:=q;subst q;refine Zn ?_;refine aue hv ?_;exact bN h' (Hp.same.le (fun k hk=>(aEB k or).trans (aBZ k hk)) hd (Kb _)) ⟨rfl,rfl⟩
    |some l2=>
     rw[hM] at q;obtain⟨m2,es2,c2,rfl,r1,r2,r3,r4⟩:=q;have C:=tM o3 s.wt q5 l2 m2 es2 c2 h3 r3 r4.at
     have hb3:=(aEB (nx+1) or).trans hb1;have n3:nx+1<nx3:=or;refine Zn ?_;refine aue (e6 hv hb3 n3 hsf hk3 hxf) ?_;refine aH C rfl (aK _) ?_;refine au ?_;exact bN h' (Hp.same.le (fun k hk=>(aEB k or).trans (aBZ k hk)) hd (Kb _)) ⟨rfl,rfl⟩
   ·rw[←q7] at hk;have g1:(s.k==1)=false:=bqf;have g2:(s.k==2)=true:=bqt;have C1:=r9 x.a B m es c h2 p3 p4.at
    have hve:=lA (lJ x.a B).2;unfold goB at aBW;rw[if_neg or,if_pos hk] at aBW;have C2:=fun h=>cq (okO (lJ x.a B).2 .free) (lJ x.a B).1 t hml (vls ot t) h (.inl ⟨ot,rfl⟩);generalize lJ x.a B=P at*;refine aue (e10 hv hb1 n1 hsf hk0 g1 g2 hb2 n2 (e2 hlp hxf)) ?_;refine aH C1 rfl (aK _) ?_;by_cases he:P.2=0
    ·rw[decide_eq_true he] at hve;by_cases hcm:qX P.1 t=0
     ·have g3:(qX P.1 t != 0)=false:=bnf;rw[if_pos (.inr hcm)] at aBW;subst aBW;refine aue (e3 hv hve g3) ?_;exact bN h' (aBZ.le hd (Kb _)) ⟨rfl,rfl⟩
     have g3:(qX P.1 t != 0)=true:=bnt;rw[if_neg (by simp[he,hcm])] at aBW;subst aBW;have C:=tM o3 s.wt q5 B m es c h2 p3 p4.at
     refine aue (e7 hv hve g3 hb1 n1 hsf hk3) ?_;refine aH C rfl (aK _) ?_;refine au ?_;exact bN h' (aBZ.le hd (Kb _)) ⟨rfl,rfl⟩
    rw[decide_eq_false he] at hve;rw[if_pos (.inl he)] at aBW;subst aBW;refine aue (e2 hv hve) ?_;exact bN h' (aBZ.le hd (Kb _)) ⟨rfl,rfl⟩
   rw[←q7] at hk;have g1:(s.k==1)=false:=bqf;have g2:(s.k==2)=false:=bqf;unfold goB at aBW;rw[if_neg or,if_neg or] at aBW;refine aue (e10 hv hb1 n1 hsf hk0 g1 g2 hb2 n2 (e2 hlp hxf)) ?_;refine bG ((CS or h2 nx2 B m es c p3 p4).dom.mono ?_);rintro v h3 nx3 aEA ⟨⟨q,aEB⟩,hd3,_⟩;unfold cN;rw[aBW] at q;obtain⟨r,e⟩:=RES;have hve:=lA e;cases r with
   |none=>
    have q:v= .tup [.aAH, .bool false,dP e]:=q;subst q;refine Zn ?_;by_cases he:e=0
    ·rw[decide_eq_true he] at hve;refine aue (e2 hv hve) ?_;exact bN h' (Hp.same.le (fun k hk=>(aEB k or).trans (aBZ k hk)) hd (Kb _)) ⟨rfl,rfl⟩
    rw[decide_eq_false he] at hve;refine aue (e2 hv hve) ?_;exact bN h' (Hp.same.le (fun k hk=>(aEB k or).trans (aBZ k hk)) hd (Kb _)) ⟨rfl,rfl⟩
   |some l2=>
    obtain⟨m2,es2,c2,rfl,r1,r2,r3,r4⟩:=q;have C:=tM o3 s.wt q5 l2 m2 es2 c2 h3 r3 r4.at
    have hb3:=(aEB (nx+1) or).trans hb1;have n3:nx+1<nx3:=or;refine Zn ?_;refine aue (e6 hv hb3 n3 hsf hk3 hxf) ?_;refine aH C rfl (aK _) ?_;refine au ?_;exact bN h' (Hp.same.le (fun k hk=>(aEB k or).trans (aBZ k hk)) hd (Kb _)) ⟨rfl,rfl⟩
  rw[if_neg hlr] at aBT;rw[if_pos hlr];subst aBT;have hv6:veq (mS.iface true) (dP 6) V.nilIface=some false:=rfl;refine aue hv6 ?_;exact bN h' (aBZ.le hd (Kb _)) ⟨rfl,rfl⟩
 simp only[if_neg hi] at C1;rw[if_pos hi];have hv:veq (mS.iface true) (dP 1) V.nilIface=some false:=rfl;have f5:zS5.fits (.agg 5)=true:=rfl;have f17:wU.fits (.agg 17)=true:=rfl;generalize zS5=Z5 at*;generalize wU=Z17 at*;refine aue (e4 hPf f5 f17 hv) ?_;exact bN h' (leo hd) ⟨rfl,rfl⟩
end Go.Proofs.YtgbiopfghdilnaaGreatDoor
