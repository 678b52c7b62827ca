/-
Texts of this proof,one behind the other. No conditions.
-/
import Derived.WalkKit
import Derived.WalkSpells
open List renaming getD_eq_getElem?_getD→Ka,getElem?_eq_getElem→Kc,getElem_mem→Ki,range→Kj,all_eq_true→Ko,getElem?_take→Kx,getElem?_drop→Ky
open Nat renaming lt_of_lt_of_le→Kb,le_refl→Kg,le_trans→Kq,add_assoc→Kt,lt_or_ge→KC,ne_of_lt→KD
open Go.Result renaming andThen_ok→Kd
open Go.Sem renaming run_bind→Ke,run_pure→Km
open Go renaming undef→Kf
open Bool renaming and_eq_true→Kh
open Array renaming getElem?_eq_getElem→Kk,getD_eq_getD_getElem?→Ks,getElem?_eq_none→Ku
open Go.World renaming shape?→Kp,cell?→Kw
open Go.Instr renaming loadAt→Kv,sureAddr→Kz
open Option renaming bind_some→KB
set_option linter.unusedSimpArgs false
set_option linter.unusedVariables false
set_option linter.unusedSectionVars false
namespace Go.Proofs.YtecepaehmojpgaaGreat
theorem or{P:Prop}(h:P:=by omega):P:=h
theorem Zm{P:Prop}(h:P:=by simp):P:=h
theorem ZM{P:Prop}(h:P:=by decide):P:=h
theorem Zz{P:Prop}(h:P:=by kernel_rfl):P:=h
open Go.RowKit
inductive Sh where
 |leaf
 |agg (n:Nat)
 deriving DecidableEq,Inhabited
def Sh.size:Sh→Nat
 | .leaf=>1
 | .agg n=>n
inductive Own where
 |nil
 |full
 |tok (n:Nat)
 |free
 deriving DecidableEq,Inhabited
inductive V where
 |bool (b:Bool)
 |int (k:IntKind) (n:Int)
 |str (s:ByteArray)
 |aAJ
 |ptr (n:Nat) (k:Sh) (i o:Nat)
 |ept (k:Sh) (es:List V) (i o:Nat)
 |sl (k:Sh) (own:Own) (es:List V)
 |rs (n:Nat) (k:Sh) (off len:Nat)
 |aAW
 |map (n:Nat)
 |aAX
 |chan (n:Nat)
 |fn (f:Fn) (first cap:List V)
 |aAv
 |yld (n:Nat)
 |iface (t:Nat) (v:V)
 |nilIface
 |agg (cs:List V)
 |tup (vs:List V)
 |top
 deriving Inhabited
def V.undef:V:= .tup []
def V.aAD:V→Bool
 | .agg _=>false
 | .tup _=>false
 | .top=>false
 |_=>true
def V.cells:V→List V
 | .agg cs=>cs
 |v=>[v]
def V.cell(e:V)(j:Nat):V:=e.cells.getD j V.undef
def V.fits:Sh→V→Bool
 | .leaf,v=>v.aAD
 | .agg n, .agg cs=>decide (cs.length=n)&&cs.all V.aAD
 | .agg _,_=>false
structure Ker where
 w:World
 mu:Nat→Nat
 imm:Nat→Nat
 tp:Nat→Nat
 live:Nat→Prop
 fro:Nat→Prop
def Ker.still(K:Ker)(b o:Nat):Prop:=K.fro b∨o<K.imm b
def iH(w:World)(b:Nat):Prop:=w.heap[b]?=some (.deferred (some []))
structure pY(F:Nat→Prop)(w w':World):Prop where
 os:w'.os=w.os
 tape:w'.tape=w.tape
 output:w'.output=w.output
 drawn:w.drawn≤w'.drawn
 size:w.heap.size≤w'.heap.size
 block:∀b,b<w.heap.size→F b∨iH w b→w'.heap[b]?=w.heap[b]?
theorem pY.refl(F:Nat→Prop)(w:World):pY F w w:=⟨rfl,rfl,rfl,Kg _,Kg _,fun _ _ _=>rfl⟩
theorem pY.trans{F:Nat→Prop}{a b c:World}(h:pY F a b)(k:pY F b c):pY F a c:=
 ⟨k.os.trans h.os,k.tape.trans h.tape,k.output.trans h.output,Kq h.drawn k.drawn,Kq h.size k.size,fun i hi hF=>(k.block i (Kb hi h.size) (hF.imp (fun h=>h) fun hm=>(h.block i hi (.inr hm)).trans hm)).trans (h.block i hi hF)⟩
theorem pY.drew{F:Nat→Prop}(w:World):pY F w w.drew:=⟨rfl,rfl,rfl,Nat.le_succ _,Kg _,fun _ _ _=>rfl⟩
theorem pY.alloc{F:Nat→Prop}(w:World)(o:Obj):pY F w (w.alloc o):=⟨rfl,rfl,rfl,Kg _,Zm,fun k hk _=>Below.heap_alloc w o k hk⟩
inductive VR(K:Ker):V→Value→Prop where
 |bool (b:Bool):VR K (.bool b) (.bool b)
 |int (k:IntKind) (n:Int):VR K (.int k n) (.int k n)
 |str (s:ByteArray):VR K (.str s) (.string s)
 |aAJ:VR K .aAJ (.pointer none)
 |ptr (n:Nat) (k:Sh) (i o:Nat) (h:K.live n):VR K (.ptr n k i o) (.pointer (some ⟨K.mu n,i*k.size+o,none⟩))
 |ept (k:Sh) (es:List V) (i o b off:Nat) (f:Nat→Value) (hb:b<K.w.heap.size) (aAG:∀e∈es,e.fits k=true)
  (aAM:∀j,j<es.length*k.size→K.w.cell? ⟨b,off+j,none⟩=some (f j)) (hst:∀j,j<es.length*k.size→K.still b (off+j))
  (hv:∀i,i<es.length→∀j,j<k.size→VR K ((es.getD i V.undef).cell j) (f (i*k.size+j))):
  VR K (.ept k es i o) (.pointer (some ⟨b,off+(i*k.size+o),none⟩))
 |slnil (k:Sh):VR K (.sl k .nil []) (.slice none 0 0)
 |slz (k:Sh) (a:Addr):VR K (.sl k .free []) (.slice (some a) 0 0)
 |sl (k:Sh) (own:Own) (es:List V) (b off cap:Nat) (f:Nat→Value) (hb:b<K.w.heap.size) (aAG:∀e∈es,e.fits k=true)
  (aAM:∀j,j<es.length*k.size→K.w.cell? ⟨b,off+j,none⟩=some (f j)) (hst:∀j,j<es.length*k.size→K.still b (off+j))
  (hv:∀i,i<es.length→∀j,j<k.size→VR K ((es.getD i V.undef).cell j) (f (i*k.size+j)))
  (aAa:es.length≤cap) (aA8:own≠ .nil) (aAo:own= .full→cap=es.length)
  (aBM:∀n,own= .tok n→K.live n∧(cap=es.length∨K.mu n=b∧K.tp n=off+es.length*k.size∧∃T m,K.w.shape? b=some (T,m)∧off+cap*k.size≤m)):
  VR K (.sl k own es) (.slice (some ⟨b,off,none⟩) es.length cap)
 |rs (n:Nat) (k:Sh) (off len cap:Nat) (h:K.live n) (aAa:len≤cap) (hm:∃T m,K.w.shape? (K.mu n)=some (T,m)∧(off+cap)*k.size=m):
  VR K (.rs n k off len) (.slice (some ⟨K.mu n,off*k.size,none⟩) len cap)
 |aAW:VR K .aAW (.map none)
 |map (n:Nat) (h:K.live n):VR K (.map n) (.map (some (K.mu n)))
 |aAX:VR K .aAX (.chan none)
 |chan (n:Nat) (h:K.live n):VR K (.chan n) (.chan (some (K.mu n)))
 |fn (f:Fn) (first cap:List V) (aA2 aDy:Array Value) (h1:first.length=aA2.size) (h2:cap.length=aDy.size)
  (v1:∀i,i<first.length→VR K (first.getD i V.undef) (aA2.getD i Kf)) (v2:∀i,i<cap.length→VR K (cap.getD i V.undef) (aDy.getD i Kf)):
  VR K (.fn f first cap) (.func f aA2 aDy)
 |aAv:VR K .aAv .nilFunc
 |yld (n:Nat) (h:K.live n):VR K (.yld n) (.func (.yield (K.mu n)) #[] #[])
 |iface (t:Nat) (v:V) (cv:Value) (h:VR K v cv):VR K (.iface t v) (.iface t cv)
 |nilIface:VR K .nilIface .nilIface
 |agg (cs:List V) (ccs:Array Value) (h:cs.length=ccs.size) (v:∀i,i<cs.length→VR K (cs.getD i V.undef) (ccs.getD i Kf)):VR K (.agg cs) (.agg ccs)
 |tup (cs:List V) (ccs:Array Value) (h:cs.length=ccs.size) (v:∀i,i<cs.length→VR K (cs.getD i V.undef) (ccs.getD i Kf)):VR K (.tup cs) (.tuple ccs)
 |top (cv:Value):VR K .top cv
structure Ker.le(K K':Ker):Prop where
 live:∀n,K.live n→K'.live n
 mu:∀n,K.live n→K'.mu n=K.mu n
 tp:∀n,K.live n→K'.tp n=K.tp n
 fro:K'.fro=K.fro
 imm:∀b,b<K.w.heap.size→K.imm b≤K'.imm b
 cell:∀b o,b<K.w.heap.size→K.still b o→K'.w.cell? ⟨b,o,none⟩=K.w.cell? ⟨b,o,none⟩
 shape:∀b,b<K.w.heap.size→K'.w.shape? b=K.w.shape? b
 below:pY K.fro K.w K'.w
theorem Ker.le.refl(K:Ker):K.le K:=⟨fun _ h=>h,fun _ _=>rfl,fun _ _=>rfl,rfl,fun _ _=>Kg _,fun _ _ _ _=>rfl,fun _ _=>rfl,pY.refl _ _⟩
theorem Ker.le.still{K K':Ker}(h:K.le K'){b o:Nat}(hb:b<K.w.heap.size)(hs:K.still b o):K'.still b o:=by
 rcases hs with hs|hs
 ·exact .inl (by rw[h.fro];exact hs)
 exact .inr (Kb hs (h.imm b hb))
theorem Ker.le.trans{K K' K'':Ker}(h:K.le K')(h':K'.le K''):K.le K'' where
 live n hn:=h'.live n (h.live n hn)
 mu n hn:=(h'.mu n (h.live n hn)).trans (h.mu n hn)
 tp n hn:=(h'.tp n (h.live n hn)).trans (h.tp n hn)
 fro:=h'.fro.trans h.fro
 imm b hb:=Kq (h.imm b hb) (h'.imm b (Kb hb h.below.size))
 cell b o hb hs:=(h'.cell b o (Kb hb h.below.size) (h.still hb hs)).trans (h.cell b o hb hs)
 shape b hb:=(h'.shape b (Kb hb h.below.size)).trans (h.shape b hb)
 below:=h.below.trans (h.fro▸h'.below)
structure Ker.leV(K K':Ker):Prop where
 live:∀n,K.live n→K'.live n
 mu:∀n,K.live n→K'.mu n=K.mu n
 tp:∀n,K.live n→K'.tp n=K.tp n
 fro:K'.fro=K.fro
 imm:∀b,b<K.w.heap.size→K.imm b≤K'.imm b
 cell:∀b o,b<K.w.heap.size→K.still b o→K'.w.cell? ⟨b,o,none⟩=K.w.cell? ⟨b,o,none⟩
 shape:∀b,b<K.w.heap.size→K'.w.shape? b=K.w.shape? b
 size:K.w.heap.size≤K'.w.heap.size
theorem Ker.le.toV{K K':Ker}(h:K.le K'):K.leV K':=⟨h.live,h.mu,h.tp,h.fro,h.imm,h.cell,h.shape,h.below.size⟩
theorem Ker.leV.refl(K:Ker):K.leV K:=(Ker.le.refl K).toV
theorem Ker.leV.still{K K':Ker}(h:K.leV K'){b o:Nat}(hb:b<K.w.heap.size)(hs:K.still b o):K'.still b o:=by
 rcases hs with hs|hs
 ·exact .inl (by rw[h.fro];exact hs)
 exact .inr (Kb hs (h.imm b hb))
theorem Ker.leV.trans{K K' K'':Ker}(h:K.leV K')(h':K'.leV K''):K.leV K'' where
 live n hn:=h'.live n (h.live n hn)
 mu n hn:=(h'.mu n (h.live n hn)).trans (h.mu n hn)
 tp n hn:=(h'.tp n (h.live n hn)).trans (h.tp n hn)
 fro:=h'.fro.trans h.fro
 imm b hb:=Kq (h.imm b hb) (h'.imm b (Kb hb h.size))
 cell b o hb hs:=(h'.cell b o (Kb hb h.size) (h.still hb hs)).trans (h.cell b o hb hs)
 shape b hb:=(h'.shape b (Kb hb h.size)).trans (h.shape b hb)
 size:=Kq h.size h'.size
theorem VR.aA4{K K':Ker}(h:K.leV K'){v:V}{cv:Value}(r:VR K v cv):VR K' v cv:=by
 induction r with
 |bool b=>exact .bool b
 |int k n=>exact .int k n
 |str s=>exact .str s
 |aAJ=>exact .aAJ
 |ptr n k i o hn=>rw[←h.mu n hn];exact .ptr n k i o (h.live n hn)
 |ept k es i o b off f hb aAG aAM hst hv ih=>
  exact .ept k es i o b off f (Kb hb h.size) aAG (fun j hj=>(h.cell b _ hb (hst j hj)).trans (aAM j hj)) (fun j hj=>h.still hb (hst j hj)) ih
 |slnil k=>exact .slnil k
 |slz k a=>exact .slz k a
 |sl k own es b off cap f hb aAG aAM hst hv aAa aA8 aAo aBM ih=>
  refine .sl k own es b off cap f (Kb hb h.size) aAG (fun j hj=>(h.cell b _ hb (hst j hj)).trans (aAM j hj)) (fun j hj=>h.still hb (hst j hj)) ih aAa aA8 aAo ?_;intro n hn;obtain⟨a,q⟩:=aBM n hn;refine⟨h.live n a,?_⟩;rcases q with q|⟨c,d,T,m,g,i⟩
  ·exact .inl q
  exact .inr ⟨(h.mu n a).trans c,(h.tp n a).trans d,T,m,(h.shape b hb).trans g,i⟩
 |rs n k off len cap hn aAa hm=>
  rw[←h.mu n hn];refine .rs n k off len cap (h.live n hn) aAa ?_;obtain⟨T,m,a,b⟩:=hm;refine⟨T,m,?_,b⟩;rw[h.mu n hn,h.shape _ ?_]
  ·exact a
  unfold Kp at a;rcases KC (K.mu n) K.w.heap.size with hlt|hge
  ·exact hlt
  rw[Ku hge] at a;exact absurd a Zm
 |aAW=>exact .aAW
 |map n hn=>rw[←h.mu n hn];exact .map n (h.live n hn)
 |aAX=>exact .aAX
 |chan n hn=>rw[←h.mu n hn];exact .chan n (h.live n hn)
 |fn f first cap aA2 aDy h1 h2 _ _ v1 v2=>exact .fn f first cap aA2 aDy h1 h2 v1 v2
 |aAv=>exact .aAv
 |yld n hn=>rw[←h.mu n hn];exact .yld n (h.live n hn)
 |iface t v cv _ ih=>exact .iface t v cv ih
 |nilIface=>exact .nilIface
 |agg cs ccs hl _ ih=>exact .agg cs ccs hl ih
 |tup cs ccs hl _ ih=>exact .tup cs ccs hl ih
 |top cv=>exact .top cv
theorem VR.mono{K K':Ker}(h:K.le K'){v:V}{cv:Value}(r:VR K v cv):VR K' v cv:=r.aA4 h.toV
def VRs(K:Ker)(vs:List V)(cvs:Array Value):Prop:=vs.length=cvs.size∧∀i,i<vs.length→VR K (vs.getD i V.undef) (cvs.getD i Kf)
theorem VRs.mono{K K':Ker}(h:K.le K'){vs:List V}{cvs:Array Value}(r:VRs K vs cvs):VRs K' vs cvs:=⟨r.1,fun i hi=>(r.2 i hi).mono h⟩
theorem VR.undef(K:Ker):VR K V.undef Kf:= .tup [] #[] rfl (fun i hi=>absurd hi Zm)
theorem VR.aCB{K:Ker}{v:V}{cv:Value}(r:VR K v cv)(h:v.aAD=true):cv.oneCell'=true:=by
 cases r<;>first|rfl|(simp[V.aAD] at h)
theorem VR.cells{K:Ker}{k:Sh}{v:V}{cv:Value}(r:VR K v cv)(h:v.fits k=true):
 v.cells.length=k.size∧cv.cells.size=k.size∧(∀j,j<k.size→VR K (v.cell j) (cv.cells.getD j Kf))∧(∀j,j<k.size→(v.cell j).aAD=true):=by
 cases k with
 |leaf=>
  simp only[V.fits] at h;have e1:v.cells=[v]:=by cases v<;>first|rfl|(simp[V.aAD] at h)
  have e2:cv.cells=#[cv]:=by cases r<;>first|rfl|(simp[V.aAD] at h)
  refine⟨by rw[e1];rfl,by rw[e2];rfl,?_,?_⟩
  ·intro j hj;have:j=0:=by simp[Sh.size] at hj;exact hj
   subst this;unfold V.cell;rw[e1,e2];exact r
  intro j hj;have:j=0:=by simp[Sh.size] at hj;exact hj
  subst this;unfold V.cell;rw[e1];exact h
 |agg n=>
  cases r with
  |agg cs ccs hl hv=>
   simp only[V.fits,Kh,decide_eq_true_eq,Ko] at h;obtain⟨h1,h2⟩:=h;refine⟨h1,by show ccs.size=n;omega,fun j hj=>hv j (by simp only[Sh.size] at hj;omega),?_⟩;intro j hj;simp only[Sh.size] at hj;have hj':j<cs.length:=or;show(cs.getD j V.undef).aAD=true;rw[Ka,Kc hj'];exact h2 _ (Ki _)
  |_=>simp[V.fits] at h
theorem VR.aDj{K:Ker}{n:Nat}{v:V}{ccs:Array Value}(h:v.fits (.agg n)=true)(hs:ccs.size=n)(hv:∀j,j<n→VR K (v.cell j) (ccs.getD j Kf)):VR K v (.agg ccs):=by
 cases v with
 |agg cs=>
  simp only[V.fits,Kh,decide_eq_true_eq] at h;exact .agg cs ccs or (fun i hi=>hv i or)
 |_=>simp[V.fits] at h
structure ME where
 k:V
 v:V
 b:Nat
 deriving Inhabited
inductive Blk where
 |arr (k:Sh) (es:List V)
 |tip
 |obj (o:Obj) (U:Ker→Prop)
 |mp (es:List ME) (c:Nat)
 |mit (m since:Nat) (seen:List Nat) (last:Nat)
 deriving Inhabited
def Blk.mem:Blk→Bool
 | .arr _ _=>true
 | .mp _ _=>true
 |_=>false
abbrev Hp:=Nat→Option Blk
def Hp.set(h:Hp)(n:Nat)(b:Blk):Hp:=fun m=>if m=n then some b else h m
def Hp.del(h:Hp)(n:Nat):Hp:=fun m=>if m=n then none else h m
def Hp.le(h h':Hp):Prop:=∀n b,h n=some b→h' n=some b
theorem Hp.le_refl(h:Hp):h.le h:=fun _ _ e=>e
def kG:Obj→Bool
 | .cells .. =>false
 | .deferred .. =>false
 |_=>true
inductive BR(K:Ker)(n:Nat):Blk→Prop where
 |arr (k:Sh) (es:List V) (c:Array Value) (T:Nat) (hh:K.w.heap[K.mu n]?=some (.cells c T (0,0))) (hsz:es.length*k.size≤c.size) (hi:K.imm (K.mu n)=0)
  (aAG:∀e∈es,e.fits k=true) (hv:∀i,i<es.length→∀j,j<k.size→VR K ((es.getD i V.undef).cell j) (c.getD (i*k.size+j) Kf)):BR K n (.arr k es)
 |tip (c:Array Value) (T:Nat) (hh:K.w.heap[K.mu n]?=some (.cells c T (0,0))) (hi:K.imm (K.mu n)=K.tp n) (ht:K.tp n≤c.size):BR K n .tip
 |obj (o:Obj) (U:Ker→Prop) (hh:K.w.heap[K.mu n]?=some o) (ho:kG o=true) (hu:U K) (hU:∀A B:Ker,A.leV B→U A→U B):BR K n (.obj o U)
 |mp (es:List ME) (c:Nat) (ces:Array MapEntry) (hh:K.w.heap[K.mu n]?=some (.map ces c)) (hl:es.length=ces.size)
  (hv:∀i,i<es.length→VR K (es.getD i default).k (ces.getD i default).key∧VR K (es.getD i default).v (ces.getD i default).val∧(ces.getD i default).born=(es.getD i default).b):BR K n (.mp es c)
 |mit (m since:Nat) (seen:List Nat) (last:Nat) (hh:K.w.heap[K.mu n]?=some (.mapIter (some (K.mu m)) since seen.toArray last)) (hm:K.live m):BR K n (.mit m since seen last)
structure Rel(K:Ker)(h:Hp):Prop where
 lt:∀n b,h n=some b→K.live n
 base:∀n b,h n=some b→¬K.fro (K.mu n)
 blk:∀n b,h n=some b→BR K n b
 inj:∀n n' b b',h n=some b→h n'=some b'→K.mu n=K.mu n'→n=n'
 size:∀b,K.fro b→b<K.w.heap.size
theorem Rel.weaken{K:Ker}{h h':Hp}(r:Rel K h)(hl:h'.le h):Rel K h':=
 ⟨fun n b e=>r.lt n b (hl n b e),fun n b e=>r.base n b (hl n b e),fun n b e=>r.blk n b (hl n b e),fun n n' b b' e e'=>r.inj n n' b b' (hl n b e) (hl n' b' e'),r.size⟩
theorem BR.lt_size{K:Ker}{n:Nat}{b:Blk}(r:BR K n b):K.mu n<K.w.heap.size:=by
 have key:∀o,K.w.heap[K.mu n]?=some o→K.mu n<K.w.heap.size:=fun o ho=>by
  rcases KC (K.mu n) K.w.heap.size with hlt|hge
  ·exact hlt
  rw[Ku hge] at ho;exact absurd ho Zm
 cases r with
 |arr k es c T hh=>exact key _ hh
 |tip c T hh=>exact key _ hh
 |obj o U hh=>exact key _ hh
 |mp es c ces hh=>exact key _ hh
 |mit m since seen last hh=>exact key _ hh
theorem BR.aA4{K K':Ker}{n:Nat}{b:Blk}(h:K.leV K')(hn:K.live n)(hh:K'.w.heap[K.mu n]?=K.w.heap[K.mu n]?)(hi:K'.imm (K.mu n)=K.imm (K.mu n))(r:BR K n b):BR K' n b:=by
 have em:=h.mu n hn;have et:=h.tp n hn;cases r with
 |arr k es c T hc hsz hi' aAG hv=>exact .arr k es c T (by rw[em,hh];exact hc) hsz (by rw[em,hi];exact hi') aAG (fun i hi j hj=>(hv i hi j hj).aA4 h)
 |tip c T hc hi' ht=>exact .tip c T (by rw[em,hh];exact hc) (by rw[em,hi,et];exact hi') (by rw[et];exact ht)
 |obj o U ho hc hu hU=>exact .obj o U (by rw[em,hh];exact ho) hc (hU _ _ h hu) hU
 |mp es c ces hc hl hv=>exact .mp es c ces (by rw[em,hh];exact hc) hl (fun i hi=>⟨(hv i hi).1.aA4 h,(hv i hi).2.1.aA4 h,(hv i hi).2.2⟩)
 |mit m since seen last ho hm=>exact .mit m since seen last (by rw[em,hh,h.mu m hm];exact ho) (h.live m hm)
theorem BR.mono{K K':Ker}{n:Nat}{b:Blk}(h:K.le K')(hn:K.live n)(hh:K'.w.heap[K.mu n]?=K.w.heap[K.mu n]?)(hi:K'.imm (K.mu n)=K.imm (K.mu n))(r:BR K n b):BR K' n b:=r.aA4 h.toV hn hh hi
theorem Rel.aJY{K K':Ker}{h:Hp}(r:Rel K h)(hle:K.leV K')(hh:∀n b,h n=some b→K'.w.heap[K.mu n]?=K.w.heap[K.mu n]?∧K'.imm (K.mu n)=K.imm (K.mu n)):Rel K' h where
 lt n b e:=hle.live n (r.lt n b e)
 base n b e:=by rw[hle.fro,hle.mu n (r.lt n b e)];exact r.base n b e
 blk n b e:=(r.blk n b e).aA4 hle (r.lt n b e) (hh n b e).1 (hh n b e).2
 inj n n' b b' e e' em:=by
  rw[hle.mu n (r.lt n b e),hle.mu n' (r.lt n' b' e')] at em;exact r.inj n n' b b' e e' em
 size b hb:=by rw[hle.fro] at hb;exact Kb (r.size b hb) hle.size
theorem Rel.aBB{K K':Ker}{h:Hp}(r:Rel K h)(hle:K.le K')(hh:∀n b,h n=some b→K'.w.heap[K.mu n]?=K.w.heap[K.mu n]?∧K'.imm (K.mu n)=K.imm (K.mu n)):Rel K' h:=r.aJY hle.toV hh
def Ker.push(K:Ker)(a:Nat)(o:Obj)(m:Nat):Ker:=
 {w:=K.w.alloc o,mu:=fun n=>if n=a then K.w.heap.size else K.mu n,imm:=fun b=>if b=K.w.heap.size then m else K.imm b,
  tp:=fun n=>if n=a then m else K.tp n,live:=fun n=>n=a∨K.live n,fro:=K.fro}
theorem fQ(w:World)(o:Obj)(b:Nat)(hb:b<w.heap.size):(w.alloc o).heap[b]?=w.heap[b]?:=Below.heap_alloc w o b hb
theorem dP(w:World)(o:Obj):(w.alloc o).heap[w.heap.size]?=some o:=by
 show(w.heap.push o)[w.heap.size]?=some o;simp
theorem wE(w:World)(o:Obj):(w.alloc o).heap.size=w.heap.size+1:=by
 show(w.heap.push o).size=_;simp
theorem kZ{w w':World}{b o:Nat}(h:w'.heap[b]?=w.heap[b]?):w'.cell? ⟨b,o,none⟩=w.cell? ⟨b,o,none⟩:=by simp only[Kw,h]
theorem oL{w w':World}{b:Nat}(h:w'.heap[b]?=w.heap[b]?):w'.shape? b=w.shape? b:=by simp only[Kp,h]
theorem Ker.aBA(K:Ker)(a:Nat)(ha:¬K.live a)(o:Obj)(m:Nat):K.le (K.push a o m) where
 live n hn:= .inr hn
 mu n hn:=by have:n≠a:=fun e=>ha (e▸hn);simp[Ker.push,this]
 tp n hn:=by have:n≠a:=fun e=>ha (e▸hn);simp[Ker.push,this]
 fro:=rfl
 imm b hlt:=by simp[Ker.push,KD hlt]
 cell b o' hlt _:=kZ (fQ _ _ _ hlt)
 shape b hlt:=oL (fQ _ _ _ hlt)
 below:=pY.alloc _ o
theorem Rel.push{K:Ker}{h:Hp}(r:Rel K h){a:Nat}(ha:¬K.live a)(o:Obj)(m:Nat):Rel (K.push a o m) h:=
 r.aBB (K.aBA a ha o m) fun n b e=>by
  have hlt:=(r.blk n b e).lt_size;exact⟨fQ _ _ _ hlt,by simp[Ker.push,KD hlt]⟩
theorem Rel.set_push{K:Ker}{h:Hp}(r:Rel K h){a:Nat}(ha:¬K.live a)(o:Obj)(m:Nat){b:Blk}(hb:BR (K.push a o m) a b):Rel (K.push a o m) (h.set a b):=by
 have r':=r.push ha o m;have hmu:(K.push a o m).mu a=K.w.heap.size:=by simp[Ker.push]
 have hne:∀n b',h n=some b'→(K.push a o m).mu n<K.w.heap.size:=fun n b' e=>by
  have hlt:=(r.blk n b' e).lt_size;rw[(K.aBA a ha o m).mu n (r.lt n b' e)];exact hlt
 refine⟨?_,?_,?_,?_,r'.size⟩
 ·intro n b' e;unfold Hp.set at e;split at e
  ·rename_i hn;exact .inl hn
  exact r'.lt n b' e
 ·intro n b' e;unfold Hp.set at e;split at e
  ·rename_i hn;rw[hn,hmu];exact fun h=>Nat.lt_irrefl _ (r.size _ h)
  exact r'.base n b' e
 ·intro n b' e;unfold Hp.set at e;split at e
  ·rename_i hn;injection e with e;rw[hn,←e];exact hb
  exact r'.blk n b' e
 intro n n' b1 b2 e1 e2 em;unfold Hp.set at e1 e2;split at e1<;>split at e2
 ·omega
 ·rename_i hn hn';rw[hn,hmu] at em;have:=hne n' b2 e2;omega
 ·rename_i hn hn';rw[hn',hmu] at em;have:=hne n b1 e1;omega
 exact r'.inj n n' b1 b2 e1 e2 em
def Ker.drew(K:Ker):Ker:={K with w:=K.w.drew}
theorem Ker.aAm(K:Ker):K.le K.drew:=⟨fun _ h=>h,fun _ _=>rfl,fun _ _=>rfl,rfl,fun _ _=>Kg _,fun _ _ _ _=>rfl,fun _ _=>rfl,pY.drew _⟩
theorem Rel.drew{K:Ker}{h:Hp}(r:Rel K h):Rel K.drew h:=r.aBB K.aAm fun _ _ _=>⟨rfl,rfl⟩
def Ker.row(K:Ker)(b:Nat)(c:Array Value):Ker:={K with w:=K.w.setRow b c}
theorem qv(w:World)(b:Nat)(c cur:Array Value)(T:TypeId)(fr:Nat×Nat)(hg:w.heap[b]?=some (.cells cur T fr))(hs:c.size=cur.size)(b':Nat):(w.setRow b c).shape? b'=w.shape? b':=by
 by_cases e:b'=b
 ·subst e;simp only[Kp,setRow_heap w b' cur c T fr hg,hg,hs]
 simp only[Kp,setRow_other w b b' c e]
theorem rV(w:World)(b:Nat)(c:Array Value):(w.setRow b c).heap.size=w.heap.size:=by simp[World.setRow]
theorem l7{F:Nat→Prop}(w:World)(b:Nat)(c:Array Value)(hb:¬F b){cur:Array Value}{T:TypeId}{fr:Nat×Nat}(hg:w.heap[b]?=some (.cells cur T fr)):pY F w (w.setRow b c):=
 ⟨rfl,rfl,rfl,Kg _,by rw[rV];exact Kg _,fun k _ hk=>setRow_other w b k c (fun e=>hk.elim (fun hk=>hb (e▸hk)) fun hk=>by subst e;unfold iH at hk;rw[hg] at hk;cases hk)⟩
theorem Ker.aCi(K:Ker)(b:Nat)(c cur:Array Value)(T:TypeId)(hg:K.w.heap[b]?=some (.cells cur T (0,0)))(hs:c.size=cur.size)(hb:¬K.fro b)
 (aDF:∀o,o<K.imm b→c[o]?=cur[o]?):K.le (K.row b c) where
 live _ hn:=hn
 mu _ _:=rfl
 tp _ _:=rfl
 fro:=rfl
 imm _ _:=Kg _
 cell b' o hlt hst:=by
  by_cases e:b'=b
  ·subst e;rcases hst with h|h
   ·exact absurd h hb
   show((K.w.setRow b' c).cell? ⟨b',o,none⟩)=_;simp only[Kw,setRow_heap K.w b' cur c T (0,0) hg,hg,aDF o h]
  exact kZ (setRow_other K.w b b' c e)
 shape b' _:=qv K.w b c cur T (0,0) hg hs b'
 below:=l7 K.w b c hb hg
theorem Rel.row{K:Ker}{h:Hp}(r:Rel K h){n:Nat}{b0 b1:Blk}(hn:h n=some b0)(c cur:Array Value)(T:TypeId)(hg:K.w.heap[K.mu n]?=some (.cells cur T (0,0)))(hs:c.size=cur.size)
 (aDF:∀o,o<K.imm (K.mu n)→c[o]?=cur[o]?) (hb:BR (K.row (K.mu n) c) n b1):Rel (K.row (K.mu n) c) (h.set n b1):=by
 have hle:=K.aCi (K.mu n) c cur T hg hs (r.base n b0 hn) aDF;refine⟨?_,?_,?_,?_,fun b hb=>by show b<_;rw[Ker.row,rV];exact r.size b hb⟩
 ·intro m b' e;unfold Hp.set at e;split at e
  ·rename_i hm;subst hm;exact r.lt m b0 hn
  exact r.lt m b' e
 ·intro m b' e;unfold Hp.set at e;split at e
  ·rename_i hm;subst hm;exact r.base m b0 hn
  exact r.base m b' e
 ·intro m b' e;unfold Hp.set at e;split at e
  ·rename_i hm;subst hm;injection e with e;subst e;exact hb
  rename_i hm;refine(r.blk m b' e).mono hle (r.lt m b' e) ?_ rfl;exact setRow_other K.w (K.mu n) (K.mu m) c (fun em=>hm (r.inj m n b' b0 e hn em))
 intro m m' b1' b2' e1 e2 em;unfold Hp.set at e1 e2;have g:∀x bb,(if x=n then some b1 else h x)=some bb→∃b',h x=some b':=fun x bb hx=>by
  split at hx
  ·rename_i hm;subst hm;exact⟨b0,hn⟩
  exact⟨bb,hx⟩
 obtain⟨c1,d1⟩:=g m b1' e1;obtain⟨c2,d2⟩:=g m' b2' e2;exact r.inj m m' c1 c2 d1 d2 em
theorem eQ{k i j n:Nat}(hj:j<k)(hi:i<n):i*k+j<n*k:=by
 have:(i+1)*k≤n*k:=Nat.mul_le_mul_right _ hi;rw[Nat.add_mul,Nat.one_mul] at this;omega
theorem zY{k j n:Nat}(h:j<n*k):j / k<n∧j % k<k∧j / k*k+j % k=j:=by
 have hk:0<k:=by
  rcases Nat.eq_zero_or_pos k with e|e
  ·subst e;simp at h
  exact e
 exact⟨Nat.div_lt_of_lt_mul (by rwa [Nat.mul_comm] at h),Nat.mod_lt _ hk,Nat.div_add_mod' j k⟩
mutual
def V.names(L:Nat→Prop):V→Prop
 | .ptr n _ _ _=>L n
 | .rs n _ _ _=>L n
 | .map n=>L n
 | .chan n=>L n
 | .yld n=>L n
 | .ept _ es _ _=>bU L es
 | .sl _ own es=>(∀n,own= .tok n→L n)∧bU L es
 | .fn _ a b=>bU L a∧bU L b
 | .iface _ v=>v.names L
 | .agg cs=>bU L cs
 | .tup vs=>bU L vs
 |_=>True
def bU(L:Nat→Prop):List V→Prop
 | []=>True
 |v::vs=>v.names L∧bU L vs
end
theorem qK{L:Nat→Prop}:∀{vs:List V},bU L vs↔∀v∈vs,v.names L
 | []=>by simp[bU]
 |v::vs=>by simp[bU,qK (vs:=vs)]
theorem eT{L:Nat→Prop}{vs:List V}(h:bU L vs)(i:Nat):(vs.getD i V.undef).names L:=by
 by_cases hi:i<vs.length
 ·rw[Ka,Kc hi];exact qK.1 h _ (Ki _)
 rw[Ka,List.getElem?_eq_none or];simp[V.undef,V.names,bU]
theorem gX{L:Nat→Prop}{vs:List V}(h:∀i,i<vs.length→(vs.getD i V.undef).names L):bU L vs:=by
 refine qK.2 fun v hv=>?_;obtain⟨i,hi,rfl⟩:=List.getElem_of_mem hv;have:=h i hi;rw[Ka,Kc hi] at this;exact this
theorem nC{L:Nat→Prop}{v:V}(h:v.names L)(j:Nat):(v.cell j).names L:=by
 have one:∀w:V,w.names L→((([w]:List V)).getD j V.undef).names L:=fun w hw=>eT (by simp[bU,hw]) j;cases v<;>first|exact one _ h|skip
 case agg cs=>exact eT (vs:=cs) (by simpa [V.names] using h) j
theorem gg{L:Nat→Prop}{k:Sh}{v:V}(hf:v.fits k=true)(h:∀j,j<k.size→(v.cell j).names L):v.names L:=by
 cases k with
 |leaf=>
  simp only[V.fits] at hf;have e1:v.cells=[v]:=by cases v<;>first|rfl|(simp[V.aAD] at hf)
  have:=h 0 (by simp[Sh.size]);simpa [V.cell,e1] using this
 |agg n=>
  cases v with
  |agg cs=>
   simp only[V.fits,Kh,decide_eq_true_eq] at hf;show bU L cs;exact gX fun i hi=>h i (by show i<n;omega)
  |_=>simp[V.fits] at hf
theorem bG{α:Type}{L:Nat→Prop}{f:α→V}(h:∀x,(f x).names L)(l:List α):bU L (l.map f):=by
 refine qK.2 fun v hv=>?_;obtain⟨x,_,rfl⟩:=List.mem_map.1 hv;exact h x
theorem VR.free{K:Ker}{k:Sh}{own:Own}{es:List V}{cv:Value}(r:VR K (.sl k own es) cv)(h:own≠ .nil):VR K (.sl k .free es) cv:=by
 cases r with
 |slnil=>exact absurd rfl h
 |slz=>exact .slz _ _
 |sl _ _ _ b off cap f hb aAG aAM hst hv aAa aA8 aAo aBM=>exact .sl k .free es b off cap f hb aAG aAM hst hv aAa Zm Zm (fun n e=>by cases e)
def Ker.only(K:Ker)(L:Nat→Prop):Ker:={K with live:=L}
theorem VR.only{K:Ker}{v:V}{cv:Value}(r:VR K v cv)(L:Nat→Prop)(hn:v.names L):VR (K.only L) v cv:=by
 induction r with
 |bool b=>exact .bool b
 |int k n=>exact .int k n
 |str s=>exact .str s
 |aAJ=>exact .aAJ
 |ptr n k i o h=>exact .ptr n k i o hn
 |ept k es i o b off f hb aAG aAM hst hv ih=>exact .ept k es i o b off f hb aAG aAM hst fun i hi j hj=>ih i hi j hj (nC (eT hn i) j)
 |slnil k=>exact .slnil k
 |slz k a=>exact .slz k a
 |sl k own es b off cap f hb aAG aAM hst hv aAa aA8 aAo aBM ih=>
  exact .sl k own es b off cap f hb aAG aAM hst (fun i hi j hj=>ih i hi j hj (nC (eT hn.2 i) j)) aAa aA8 aAo fun n e=>⟨hn.1 n e,(aBM n e).2⟩
 |rs n k off len cap h aAa hm=>exact .rs n k off len cap hn aAa hm
 |aAW=>exact .aAW
 |map n h=>exact .map n hn
 |aAX=>exact .aAX
 |chan n h=>exact .chan n hn
 |fn f first cap aA2 aDy h1 h2 _ _ v1 v2=>exact .fn f first cap aA2 aDy h1 h2 (fun i hi=>v1 i hi (eT hn.1 i)) (fun i hi=>v2 i hi (eT hn.2 i))
 |aAv=>exact .aAv
 |yld n h=>exact .yld n hn
 |iface t v cv _ ih=>exact .iface t v cv (ih hn)
 |nilIface=>exact .nilIface
 |agg cs ccs hl _ ih=>exact .agg cs ccs hl fun i hi=>ih i hi (eT (vs:=cs) hn i)
 |tup cs ccs hl _ ih=>exact .tup cs ccs hl fun i hi=>ih i hi (eT (vs:=cs) hn i)
 |top cv=>exact .top cv
theorem VR.names{K:Ker}{v:V}{cv:Value}(r:VR K v cv):v.names K.live:=by
 have row:∀(k:Sh) (es:List V),(∀e∈es,e.fits k=true)→(∀i,i<es.length→∀j,j<k.size→((es.getD i V.undef).cell j).names K.live)→bU K.live es:=by
  intro k es aAG h;refine gX fun i hi=>gg (k:=k) ?_ (h i hi);rw[Ka,Kc hi];exact aAG _ (Ki _)
 induction r with
 |ptr n k i o h=>exact h
 |ept k es i o b off f hb aAG aAM hst hv ih=>exact row k es aAG ih
 |sl k own es b off cap f hb aAG aAM hst hv aAa aA8 aAo aBM ih=>exact⟨fun n e=>(aBM n e).1,row k es aAG ih⟩
 |slnil k=>exact⟨(fun n e=>by cases e),trivial⟩
 |slz k a=>exact⟨(fun n e=>by cases e),trivial⟩
 |rs n k off len cap h aAa hm=>exact h
 |map n h=>exact h
 |chan n h=>exact h
 |yld n h=>exact h
 |fn f first cap aA2 aDy h1 h2 _ _ v1 v2=>exact⟨gX v1,gX v2⟩
 |iface t v cv _ ih=>exact ih
 |agg cs ccs hl _ ih=>exact gX (vs:=cs) ih
 |tup cs ccs hl _ ih=>exact gX (vs:=cs) ih
 |_=>trivial
mutual
theorem cU{L L':Nat→Prop}(h:∀n,L n→L' n):∀{v:V},v.names L→v.names L'
 | .ptr n _ _ _,q=>h n q
 | .rs n _ _ _,q=>h n q
 | .map n,q=>h n q
 | .chan n,q=>h n q
 | .yld n,q=>h n q
 | .ept _ es _ _,q=>iG h (vs:=es) q
 | .sl _ own es,q=>⟨fun n e=>h n (q.1 n e),iG h (vs:=es) q.2⟩
 | .fn _ a b,q=>⟨iG h (vs:=a) q.1,iG h (vs:=b) q.2⟩
 | .iface _ v,q=>cU h (v:=v) q
 | .agg cs,q=>iG h (vs:=cs) q
 | .tup vs,q=>iG h (vs:=vs) q
 | .bool _,_=>trivial
 | .int _ _,_=>trivial
 | .str _,_=>trivial
 | .aAJ,_=>trivial
 | .aAW,_=>trivial
 | .aAX,_=>trivial
 | .aAv,_=>trivial
 | .nilIface,_=>trivial
 | .top,_=>trivial
theorem iG{L L':Nat→Prop}(h:∀n,L n→L' n):∀{vs:List V},bU L vs→bU L' vs
 | [],_=>trivial
 |v::vs,q=>⟨cU h (v:=v) q.1,iG h (vs:=vs) q.2⟩
end
theorem Rel.back{K K':Ker}{h:Hp}(r:Rel K h)(r':Rel K' h){L:Nat→Prop}(hle:K.leV (K'.only L))(hL:∀n,K.live n→L n):Rel (K'.only L) h:=by
 refine⟨fun n b e=>hL n (r.lt n b e),r'.base,fun n b e=>?_,r'.inj,r'.size⟩;have hb:=r.blk n b e;have hb':=r'.blk n b e;cases hb' with
 |arr k es c T hh hsz hi aAG hvs=>
  refine .arr k es c T hh hsz hi aAG fun i hi j hj=>(hvs i hi j hj).only L ?_;cases hb with
  |arr _ _ c0 T0 hh0 aJc hi0 aEs aEf=>
   have:=(aEf i hi j hj).names;generalize (es.getD i V.undef).cell j=x at this;exact cU hL this
 |tip c T hh hi ht=>exact .tip c T hh hi ht
 |obj o U hh ho _ hU=>cases hb with
  |obj _ _ _ _ hu _=>exact .obj o U hh ho (hU _ _ hle hu) hU
 |mp es c ces hh hl hv=>cases hb with
  |mp _ _ aNl hh0 hl0 hv0=>exact .mp es c ces hh hl fun i hi=>⟨(hv i hi).1.only L (cU hL (hv0 i hi).1.names),(hv i hi).2.1.only L (cU hL (hv0 i hi).2.1.names),(hv i hi).2.2⟩
 |mit m since seen last hh hm=>cases hb with
  |mit _ _ _ _ hh0 hm0=>exact .mit m since seen last hh (hL m hm0)
def dN(P:Program)(t:TypeId):Option Sh:=
 match P.info? t with
 |none=>none
 |some i=>match P.underlying t with
  |some (.struct _)=>some (.agg i.size)
  |some (.array _ _)=>some (.agg i.size)
  |some _=>if i.size=1 then some .leaf else none
  |none=>none
inductive aP where
 |slot (t:Nat)
 |const (v:V)
 deriving Inhabited
def aP.ev(sl:List V):aP→V
 | .slot t=>sl.getD t V.undef
 | .const v=>v
def dr(P:Program)(t:TypeId):Value→Option V
 | .bool b=>some (.bool b)
 | .int k n=>some (.int k n)
 | .string s=>some (.str s)
 | .pointer none=>some .aAJ
 | .slice none 0 0=>match P.underlying t with
  |some (.slice e)=>(dN P e).map fun k=> .sl k .nil []
  |_=>some (.sl .leaf .nil [])
 | .map none=>some .aAW
 | .chan none=>some .aAX
 | .nilFunc=>some .aAv
 | .nilIface=>some .nilIface
 |_=>none
def df(P:Program):Nat→TypeId→List TypeId
 |0,t=>[t]
 |d+1,t=>match P.underlying t with
  |some (.struct fs)=>fs.toList.flatMap fun f=>df P d f.type
  |some (.array n e)=>(List.replicate n (df P d e)).flatten
  |_=>[t]
def mS(P:Program):List TypeId→List Value→Option (List V)
 |_,[]=>some []
 |ts,v::vs=>match dr P (ts.headD 0) v,mS P ts.tail vs with
  |some x,some xs=>some (x::xs)
  |_,_=>none
def da(P:Program)(t:TypeId):Value→Option V
 | .agg cs=>(mS P (df P 12 t) cs.toList).map .agg
 | .tuple cs=>if cs.isEmpty then some (.tup []) else none
 |v=>dr P t v
def aU(P:Program)(t:TypeId):Operand→Option aP
 | .tmp n=>some (.slot n)
 | .const v=>(da P t v).map .const
 | .func f=>some (.const (.fn (.func f) [] []))
 | .global _=>none
theorem vE{P:Program}{t:TypeId}{cv:Value}{v:V}(h:dr P t cv=some v)(K:Ker):VR K v cv∧v.aAD=true:=by
 unfold dr at h;split at h;case h_5=>
  split at h
  ·rename_i e _;cases hs:dN P e with
   |none=>simp[hs] at h
   |some k=>simp[hs] at h;subst h;exact⟨.slnil k,rfl⟩
  injection h with h;subst h;exact⟨.slnil _,rfl⟩
 all_goals first
  |(injection h with h;subst h;first|exact⟨.bool _,rfl⟩|exact⟨.int _ _,rfl⟩|exact⟨.str _,rfl⟩|exact⟨.aAJ,rfl⟩|exact⟨.aAW,rfl⟩|exact⟨.aAX,rfl⟩|exact⟨.aAv,rfl⟩|exact⟨.nilIface,rfl⟩)
  |simp at h
theorem rO{P:Program}(K:Ker):∀(cs:List Value) (ts:List TypeId) (vs:List V),mS P ts cs=some vs→
 vs.length=cs.length∧(∀i,i<vs.length→VR K (vs.getD i V.undef) (cs.getD i Kf))∧vs.all V.aAD=true
 | [],ts,vs,h=>by
  simp[mS] at h;subst h;exact⟨rfl,fun i hi=>absurd hi Zm,rfl⟩
 |c::cs,ts,vs,h=>by
  unfold mS at h;split at h
  ·rename_i x xs h1 h2;injection h with h;subst h;obtain⟨a,b,d⟩:=rO K cs _ xs h2;obtain⟨e,f⟩:=vE h1 K;refine⟨by simp[a],?_,by simp[f,d]⟩;intro i hi;cases i with
   |zero=>simpa using e
   |succ i=>simpa using b i (by simpa using hi)
  simp at h
theorem fR{P:Program}{t:TypeId}{cv:Value}{v:V}(h:da P t cv=some v)(K:Ker):VR K v cv:=by
 unfold da at h;split at h
 ·rename_i cs;cases hl:mS P (df P 12 t) cs.toList with
  |none=>simp[hl] at h
  |some vs=>
   simp[hl] at h;subst h;obtain⟨a,b,_⟩:=rO K cs.toList _ vs hl;refine .agg vs cs (by simpa using a) fun i hi=>?_;have:=b i hi;simpa using this
 ·split at h
  ·rename_i cs hc;injection h with h;subst h;have:cs=#[]:=by simpa using hc
   subst this;exact .undef K
  simp at h
 exact(vE h K).1
def gG(K:Ker)(sl:List V)(a:Act):Prop:=sl.length=a.tmps.size∧∀t,VR K (sl.getD t V.undef) (a.tmps.getD t Kf)
theorem gG.mono{K K':Ker}(h:K.le K'){sl:List V}{a:Act}(r:gG K sl a):gG K' sl a:=⟨r.1,fun t=>(r.2 t).mono h⟩
theorem aK{P:Program}{t:TypeId}{x:Operand}{l:aP}(h:aU P t x=some l){K:Ker}{sl:List V}{a:Act}(hs:∀t,VR K (sl.getD t V.undef) (a.tmps.getD t Kf)):VR K (l.ev sl) (a.eval x):=by
 cases x with
 |tmp n=>simp[aU] at h;subst h;exact hs n
 |const cv=>
  simp only[aU] at h;cases hv:da P t cv with
  |none=>simp[hv] at h
  |some v=>simp[hv] at h;subst h;exact fR hv K
 |func f=>simp[aU] at h;subst h;exact .fn _ [] [] #[] #[] rfl rfl (fun i hi=>absurd hi Zm) (fun i hi=>absurd hi Zm)
 |global g=>simp[aU] at h
def dA(k t:Sh)(o:Nat):Prop:=
 match k,t with
 | .leaf, .leaf=>o=0
 | .leaf, .agg _=>False
 | .agg n, .leaf=>o<n
 | .agg n, .agg m=>o+m≤n
def cK(t:Sh)(o:Nat)(e:V):V:=
 match t with
 | .leaf=>e.cell o
 | .agg m=>if o=0∧e.cells.length=m then e else .agg ((e.cells.drop o).take m)
theorem nJ{k t:Sh}{o:Nat}{e:V}(hp:dA k t o)(hf:e.fits k=true):(cK t o e).fits t=true∧o+t.size≤k.size∧∀j,j<t.size→(cK t o e).cell j=e.cell (o+j):=by
 cases k with
 |leaf=>
  cases t with
  |leaf=>
   simp only[dA] at hp;subst hp;simp only[V.fits] at hf;have e1:e.cells=[e]:=by cases e<;>first|rfl|(simp[V.aAD] at hf)
   have e2:cK .leaf 0 e=e:=by simp[cK,V.cell,e1]
   refine⟨by rw[e2];exact hf,by simp[Sh.size],?_⟩;intro j hj;have:j=0:=by simp[Sh.size] at hj;exact hj
   subst this;rw[e2]
  |agg m=>exact hp.elim
 |agg n=>
  cases e with
  |agg cs=>
   simp only[V.fits,Kh,decide_eq_true_eq,Ko] at hf;obtain⟨h1,h2⟩:=hf;cases t with
   |leaf=>
    simp only[dA] at hp;have hl:(cK .leaf o (.agg cs)).aAD=true:=by
     show(cs.getD o V.undef).aAD=true;rw[Ka,Kc or];exact h2 _ (Ki _)
    refine⟨hl,by simp[Sh.size];omega,?_⟩;intro j hj;have:j=0:=by simp[Sh.size] at hj;exact hj
    subst this;have e1:(cK .leaf o (.agg cs)).cells=[cK .leaf o (.agg cs)]:=by
     generalize cK .leaf o (.agg cs)=x at hl;cases x<;>first|rfl|(simp[V.aAD] at hl)
    show(cK .leaf o (.agg cs)).cells.getD 0 V.undef=_;rw[e1];rfl
   |agg m=>
    simp only[dA] at hp;unfold cK;by_cases hc:o=0∧(V.agg cs).cells.length=m
    ·simp only[if_pos hc];obtain⟨rfl,hc⟩:=hc;refine⟨?_,by simp[Sh.size];omega,fun j _=>Zm⟩;simp only[V.fits,Kh,decide_eq_true_eq,Ko];exact⟨hc,h2⟩
    simp only[if_neg hc];refine⟨?_,by simp[Sh.size];omega,?_⟩
    ·simp only[V.fits,V.cells,Kh,decide_eq_true_eq,Ko,List.length_take,List.length_drop];exact⟨or,fun x hx=>h2 x (List.mem_of_mem_drop (List.mem_of_mem_take hx))⟩
    intro j hj;simp only[Sh.size] at hj;show((cs.drop o).take m).getD j V.undef=cs.getD (o+j) V.undef;simp only[Ka,Kx,Ky,if_pos hj]
  |_=>simp[V.fits] at hf
inductive LK where
 |bool|int|str
 deriving DecidableEq,Inhabited
inductive wI where
 |plain (k:Sh) (ks:List LK)|ptr|slice|func|iface (cst:Bool)|map|chan
 deriving Inhabited
def iZ:LK→V→V→Option Bool
 | .bool, .bool a, .bool b=>some (a==b)
 | .int, .int k a, .int k' b=>if k=k' then some (a==b) else none
 | .str, .str a, .str b=>some (a.toList==b.toList)
 |_,_,_=>none
def iY:List LK→List V→List V→Option Bool
 | [],[],[]=>some true
 | [k],[x],[y]=>iZ k x y
 |k::ks,x::xs,y::ys=>match iZ k x y,iY ks xs ys with
  |some a,some b=>some (a&&b)
  |_,_=>none
 |_,_,_=>none
def veq:wI→V→V→Option Bool
 | .plain k ks,x,y=>if (x.fits k&&y.fits k)=true then iY ks x.cells y.cells else none
 | .ptr, .aAJ, .aAJ=>some true
 | .ptr, .aAJ, .ptr .. =>some false
 | .ptr, .ptr .., .aAJ=>some false
 | .ptr, .aAJ, .ept .. =>some false
 | .ptr, .ept .., .aAJ=>some false
 | .slice, .sl _ o _, .sl _ .nil _=>some (o== .nil)
 | .slice, .rs .., .sl _ .nil _=>some false
 | .func, .aAv, .aAv=>some true
 | .func, .aAv, .fn .. =>some false
 | .func, .fn .., .aAv=>some false
 | .iface true, .nilIface, .nilIface=>some true
 | .iface _, .nilIface, .iface .. =>some false
 | .iface _, .iface .., .nilIface=>some false
 | .map, .aAW, .aAW=>some true
 | .map, .aAW, .map _=>some false
 | .map, .map _, .aAW=>some false
 | .chan, .aAX, .aAX=>some true
 | .chan, .aAX, .chan _=>some false
 | .chan, .chan _, .aAX=>some false
 |_,_,_=>none
def fA(e:wI)(k:V):List ME→Option (Option Nat)
 | []=>some none
 |x::r=>match veq e k x.k with
  |some true=>some (some 0)
  |some false=>(fA e k r).map (·.map (·+1))
  |none=>none
def rK(ok:Bool)(z:V)(es:List ME):Option Nat→V
 |some j=>if ok=true then .tup [(es.getD j default).v, .bool true] else (es.getD j default).v
 |none=>if ok=true then .tup [z, .bool false] else z
def Aw(op:BinOp)(k:IntKind)(a b:Int)(R:V→Prop):Prop:=
 match op with
 | .add=>R (.int k (k.wrap (a+b)))
 | .sub=>R (.int k (k.wrap (a-b)))
 | .mul=>R (.int k (k.wrap (a*b)))
 | .quo=>b≠0∧R (.int k (k.wrap (a.tdiv b)))
 | .rem=>b≠0∧R (.int k (a.tmod b))
 | .eql=>R (.bool (a==b))
 | .neq=>R (.bool (a != b))
 | .lss=>R (.bool (decide (a<b)))
 | .leq=>R (.bool (decide (a≤b)))
 | .gtr=>R (.bool (decide (b<a)))
 | .geq=>R (.bool (decide (b≤a)))
 |_=>False
def Db(op:BinOp)(s t:ByteArray)(R:V→Prop):Prop:=
 match op with
 | .add=>((s.size+t.size:Nat):Int)≤9223372036854775807∧R (.str (s++t))
 | .eql=>R (.bool (s.toList==t.toList))
 | .neq=>R (.bool (!(s.toList==t.toList)))
 | .lss=>R (.bool (Op.bytesLess s.toList t.toList))
 | .leq=>R (.bool (Op.bytesLess s.toList t.toList||s.toList==t.toList))
 | .gtr=>R (.bool (!(Op.bytesLess s.toList t.toList||s.toList==t.toList)))
 | .geq=>R (.bool (!Op.bytesLess s.toList t.toList))
 |_=>False
def V.pick(t:Bool):V→V→V
 | .bool x, .bool y=> .bool (if t then x else y)
 |a,b=>if t then a else b
def iz(cells:List V):List (Nat×List V)→List V
 | []=>cells
 |(off,xs)::r=>iz (cells.take off++xs++cells.drop (off+xs.length)) r
def eM(sl:List V)(d:Int):Option aP→Option Int
 |none=>some d
 |some l=>match l.ev sl with
  | .int _ n=>some n
  |_=>none
def iJ(own:Own)(hi mx:Option Int):Own:=
 match own with
 | .nil=> .nil
 |o=>match hi,mx with
  |none,none=>o
  |some h,some m=>if h=m then .full else .free
  |_,_=> .free
def aGH:Own→List V→Option Int→Option Int→Own
 | .free,[],_,_=> .free
 |own,_,hi,mx=>iJ own hi mx
theorem sR(es:List V)(hi mx:Option Int):aGH .nil es hi mx= .nil:=by cases es<;>rfl
theorem pR(es:List V)(hi mx:Option Int):aGH .full es hi mx=iJ .full hi mx:=by cases es<;>rfl
theorem sQ(n:Nat)(es:List V)(hi mx:Option Int):aGH (.tok n) es hi mx=iJ (.tok n) hi mx:=by cases es<;>rfl
theorem jW(hi mx:Option Int):aGH .free [] hi mx= .free:=rfl
theorem kX(e:V)(es:List V)(hi mx:Option Int):aGH .free (e::es) hi mx=iJ .free hi mx:=rfl
theorem VR.aGH{K:Ker}{k:Sh}{own:Own}{es xs:List V}{hi mx:Option Int}{cv:Value}(ho:own≠ .nil)(h:VR K (.sl k (iJ own hi mx) xs) cv):VR K (.sl k (aGH own es hi mx) xs) cv:=by
 cases own with
 |nil=>exact absurd rfl ho
 |full=>rw[pR];exact h
 |tok n=>rw[sQ];exact h
 |free=>
  cases es with
  |nil=>exact h.free (by cases hi<;>cases mx<;>simp[iJ];split<;>simp)
  |cons=>exact h
def fI(sl:List V):Option aP→Option Int
 |none=>none
 |some l=>match l.ev sl with
  | .int _ n=>some n
  |_=>none
def FQ(mx:Bool)(a b:Int):Int:=if mx=true then (if b>a then b else a) else (if b<a then b else a)
inductive bR where
 |move (x:aP)
 |pick (c a b:aP)
 |load (t:Sh) (x:aP)
 |nilCheck (x:aP)
 |bin (op:BinOp) (x y:aP)
 |eq (ng:Bool) (ty:wI) (x y:aP)
 |not (x:aP)
 |neg (x:aP)
 |conv (k:IntKind) (x:aP)
 |aBS (t:Nat) (x:aP)
 |aCc (f:Fn) (first cap:List aP)
 |aHk (off:Nat) (x:aP)
 |fld (t:Sh) (off:Nat) (x:aP)
 |aBq (k:Sh) (x i:aP)
 |aH0 (len:Nat) (k:Sh) (x i:aP)
 |len (x:aP)
 |aHq (x:aP)
 |ext (x:aP) (i:Nat)
 |build (z:List V) (parts:List (Nat×Sh×aP))
 |slc (k:Sh) (x:aP) (lo hi mx:Option aP)
 |aGJ (x:aP) (lo hi:Option aP)
 |never
 |aI6 (x:aP)
 |mnx (mx:Bool) (x y:aP)
 |aHl (t:Nat) (z:V) (x:aP)
 |aI8 (t:Nat) (x:aP)
 |aBp (kS:Sh) (ks:List LK) (z:V) (ok:Bool) (x i:aP)
 |aEd (x:aP)
 |aHr (x i:aP)
 deriving Inhabited
def bR.sem(sl:List V)(h:Hp)(R:V→Prop):bR→Prop
 | .move x=>R (x.ev sl)
 | .pick c a b=>match c.ev sl with
  | .bool t=>R (V.pick t (a.ev sl) (b.ev sl))
  |_=>False
 | .load t x=>match x.ev sl with
  | .ptr n k i o=>match h n with
   |some (.arr k' es)=>k'=k∧i<es.length∧dA k t o∧R (cK t o (es.getD i V.undef))
   |_=>False
  | .ept k es i o=>i<es.length∧dA k t o∧R (cK t o (es.getD i V.undef))
  |_=>False
 | .nilCheck x=>match x.ev sl with
  | .ptr n k i o=>R (.ptr n k i o)
  | .ept k es i o=>R (.ept k es i o)
  |_=>False
 | .bin op x y=>match x.ev sl,y.ev sl with
  | .int k a, .int k' b=>k=k'∧Aw op k a b R
  | .str s, .str t=>Db op s t R
  |_,_=>False
 | .eq ng ty x y=>match veq ty (x.ev sl) (y.ev sl) with
  |some r=>R (.bool (if ng then !r else r))
  |none=>False
 | .not x=>match x.ev sl with
  | .bool b=>R (.bool (!b))
  |_=>False
 | .neg x=>match x.ev sl with
  | .int k n=>R (.int k (k.wrap (0-n)))
  |_=>False
 | .conv k x=>match x.ev sl with
  | .int _ n=>R (.int k (k.wrap n))
  |_=>False
 | .aBS t x=>R (.iface t (x.ev sl))
 | .aCc f first cap=>R (.fn f (first.map (aP.ev sl)) (cap.map (aP.ev sl)))
 | .aHk off x=>match x.ev sl with
  | .ptr n k i o=>R (.ptr n k i (o+off))
  | .ept k es i o=>R (.ept k es i (o+off))
  |_=>False
 | .fld t off x=>match x.ev sl with
  | .agg cs=>dA (.agg cs.length) t off∧cs.all V.aAD=true∧R (cK t off (.agg cs))
  |_=>False
 | .aBq k x i=>match x.ev sl,i.ev sl with
  | .sl k' _ es, .int _ j=>k'=k∧0≤j∧j<es.length∧R (.ept k es j.toNat 0)
  | .rs n k' off ln, .int _ j=>k'=k∧0≤j∧j<ln∧R (.ptr n k (off+j.toNat) 0)
  |_,_=>False
 | .aH0 ln k x i=>match x.ev sl,i.ev sl with
  | .ptr n k' i' o, .int _ j=>0≤j∧j<ln∧R (.ptr n k' i' (o+j.toNat*k.size))
  |_,_=>False
 | .len x=>match x.ev sl with
  | .sl _ _ es=>R (.int .i64 es.length)
  | .rs _ _ _ ln=>R (.int .i64 ln)
  |_=>False
 | .aHq x=>match x.ev sl with
  | .str s=>R (.int .i64 s.size)
  |_=>False
 | .ext x i=>match x.ev sl with
  | .tup vs=>i<vs.length∧R (vs.getD i V.undef)
  |_=>False
 | .slc k x lo hi mx=>match x.ev sl with
  | .sl k' own es=>match eM sl 0 lo,eM sl es.length hi,eM sl es.length mx with
   |some l,some h',some m=>k'=k∧0≤l∧l≤h'∧h'≤m∧m≤es.length∧(hi.isNone=true→mx.isNone=true)∧R (.sl k (aGH own es (fI sl hi) (fI sl mx)) ((es.take h'.toNat).drop l.toNat))
   |_,_,_=>False
  | .rs n k' off ln=>match eM sl 0 lo,eM sl ln hi,mx with
   |some l,some h',none=>k'=k∧0≤l∧l≤h'∧h'≤ln∧R (if l.toNat=ln∧l.toNat≠0 then .sl k .free [] else .rs n k (off+l.toNat) (h'.toNat-l.toNat))
   |some l,some h',some _=>eM sl ln mx=some 0∧k'=k∧l=0∧h'=0∧hi.isSome=true∧R (.sl k .full [])
   |_,_,_=>False
  |_=>False
 | .aGJ x lo hi=>match x.ev sl with
  | .str s=>match eM sl 0 lo,eM sl s.size hi with
   |some l,some h'=>0≤l∧l≤h'∧h'≤s.size∧R (.str (s.extract l.toNat h'.toNat))
   |_,_=>False
  |_=>False
 | .build z parts=>(∀p∈parts,(p.2.2.ev sl).fits p.2.1=true∧p.1+p.2.1.size≤z.length)∧R (.agg (iz z (parts.map fun p=>(p.1,(p.2.2.ev sl).cells))))
 | .never=>False
 | .aI6 x=>match x.ev sl with
  | .sl _ .nil _=>R (.int .i64 0)
  | .sl _ .full es=>R (.int .i64 es.length)
  |_=>False
 | .mnx mx x y=>match x.ev sl,y.ev sl with
  | .int k a, .int k' b=>k=k'∧R (.int k (FQ mx a b))
  |_,_=>False
 | .aHl t z x=>match x.ev sl with
  | .iface t' v=>R (.tup [if t'=t then v else z, .bool (decide (t'=t))])
  | .nilIface=>R (.tup [z, .bool false])
  |_=>False
 | .aI8 t x=>match x.ev sl with
  | .iface t' v=>t'=t∧R v
  |_=>False
 | .aBp kS ks z ok x i=>(i.ev sl).fits kS=true∧match x.ev sl with
  | .aAW=>R (rK ok z [] none)
  | .map n=>match h n with
   |some (.mp es _)=>match fA (.plain kS ks) (i.ev sl) es with
    |some r=>R (rK ok z es r)
    |none=>False
   |_=>False
  |_=>False
 | .aEd x=>match x.ev sl with
  | .aAW=>R (.int .i64 0)
  | .map n=>match h n with
   |some (.mp es _)=>R (.int .i64 es.length)
   |_=>False
  |_=>False
 | .aHr x i=>match x.ev sl,i.ev sl with
  | .str s, .int _ j=>0≤j∧j<s.size∧R (.int .u8 (s.data.toList.getD j.toNat 0).toNat)
  |_,_=>False
theorem bR.aBF{sl:List V}{h h':Hp}{R R':V→Prop}(hh:∀n b,h n=some b→b.mem=true→h' n=some b)(hR:∀v,R v→R' v){l:bR}(hs:l.sem sl h R):l.sem sl h' R':=by
 cases l<;>simp only[bR.sem] at hs⊢;case bin op x y=>
  revert hs;split
  ·rintro⟨a,b⟩;refine⟨a,?_⟩;cases op<;>simp only[Aw] at b⊢<;>first|exact hR _ b|exact⟨b.1,hR _ b.2⟩|exact b
  ·intro b;cases op<;>simp only[Db] at b⊢<;>first|exact hR _ b|exact⟨b.1,hR _ b.2⟩|exact b
  exact id
 case load t x=>
  revert hs;split
  ·split
   ·rename_i n k i o _ k' es he;rintro⟨a,b,c,d⟩;rw[hh _ _ he rfl];exact⟨a,b,c,hR _ d⟩
   exact False.elim
  ·rintro⟨b,c,d⟩;exact⟨b,c,hR _ d⟩
  exact id
 case aBp kS ks z ok x i=>
  refine⟨hs.1,?_⟩;have hs:=hs.2;revert hs;split
  ·exact hR _
  ·split
   ·rename_i he;rw[hh _ _ he rfl];dsimp only;split
    ·exact hR _
    exact id
   exact False.elim
  exact id
 case aEd x=>
  revert hs;split
  ·exact hR _
  ·split
   ·rename_i he;rw[hh _ _ he rfl];exact hR _
   exact False.elim
  exact id
 case slc k x lo hi mx=>
  revert hs;split
  ·split
   ·rintro⟨a,b,c,d,e,f,g⟩;exact⟨a,b,c,d,e,f,hR _ g⟩
   exact id
  ·split
   ·rintro⟨a,b,c,d,e⟩;exact⟨a,b,c,d,hR _ e⟩
   ·rintro⟨a,b,c,d,f,e⟩;exact⟨a,b,c,d,f,hR _ e⟩
   exact id
  exact id
 case aGJ x lo hi=>
  revert hs;split
  ·split
   ·rintro⟨a,b,c,e⟩;exact⟨a,b,c,hR _ e⟩
   exact id
  exact id
 all_goals
  first
   |exact hR _ hs
   |exact⟨hs.1,hR _ hs.2⟩
   |(revert hs;split<;>first|exact hR _|exact id|(rintro⟨a,b⟩;exact⟨a,hR _ b⟩)|(rintro⟨a,c,b⟩;exact⟨a,c,hR _ b⟩)|(rintro⟨a,c,d,b⟩;exact⟨a,c,d,hR _ b⟩))
theorem gV{P:Program}{t:TypeId}{k:Sh}(h:dN P t=some k):∃i d,P.info? t=some i∧P.underlying t=some d∧i.size=k.size∧((k= .leaf∧(∀fs,d≠ .struct fs)∧(∀n e,d≠ .array n e))∨(k= .agg i.size∧((∃fs,d= .struct fs)∨∃n e,d= .array n e))):=by
 unfold dN at h;split at h
 ·simp at h
 rename_i i hi;split at h
 ·rename_i fs hu;injection h with h;subst h;exact⟨i,_,hi,hu,rfl, .inr ⟨rfl, .inl ⟨fs,rfl⟩⟩⟩
 ·rename_i n e hu;injection h with h;subst h;exact⟨i,_,hi,hu,rfl, .inr ⟨rfl, .inr ⟨n,e,rfl⟩⟩⟩
 ·rename_i d h1 h2 hu;split at h
  ·rename_i hs;injection h with h;subst h;exact⟨i,d,hi,hu,hs, .inl ⟨rfl,h1,h2⟩⟩
  simp at h
 simp at h
theorem nf{P:Program}{t:TypeId}{k:Sh}(h:dN P t=some k)(w:World):(isAgg t).run P w= .ok (match k with| .leaf=>false| .agg _=>true) w:=by
 obtain⟨i,d,hi,hd,hs,hk⟩:=gV h;simp only[isAgg,Ke,run_underlying hd,Kd];rcases hk with⟨rfl,h1,h2⟩|⟨rfl,⟨fs,rfl⟩|⟨n,e,rfl⟩⟩
 ·cases d<;>first|rfl|exact absurd rfl (h1 _)|exact absurd rfl (h2 _ _)
 ·rfl
 rfl
theorem kF{P:Program}{t:TypeId}{k:Sh}(h:dN P t=some k)(w:World):(sizeOf t).run P w= .ok k.size w:=by
 obtain⟨i,d,hi,hd,hs,hk⟩:=gV h;simp[sizeOf,typeInfo,hi,hs]
def aAy(k:Sh)(f:Nat→Value):Value:=
 match k with
 | .leaf=>f 0
 | .agg n=> .agg ((Kj n).map f).toArray
theorem eR(b o n:Nat):(⟨b,o,none⟩:Addr).add n=⟨b,o+n,none⟩:=by
 unfold Addr.add;split
 ·subst_vars;rfl
 rfl
theorem rW{P:Program}{t:TypeId}{k:Sh}(h:dN P t=some k)(w:World)(b o:Nat)(f:Nat→Value)(hc:∀j,j<k.size→w.cell? ⟨b,o+j,none⟩=some (f j)):
 (loadVar t ⟨b,o,none⟩).run P w= .ok (aAy k f) w:=by
 simp only[loadVar,Ke,nf h,Kd];cases k with
 |leaf=>
  have:=hc 0 (by simp[Sh.size]);simp only[Nat.add_zero] at this;simp[this,aAy]
 |agg n=>
  have hl:=run_loadCells (P:=P) w ⟨b,o,none⟩ n f (fun j hj=>by rw[eR];exact hc j hj);simp only[Ke,kF h,Kd,if_true,Sh.size,hl,Km,aAy]
theorem VR.aAy{K:Ker}{k:Sh}{v:V}{f:Nat→Value}(hf:v.fits k=true)(hv:∀j,j<k.size→VR K (v.cell j) (f j)):VR K v (aAy k f):=by
 cases k with
 |leaf=>
  have h0:=hv 0 (by simp[Sh.size]);simp only[V.fits] at hf;have e1:v.cells=[v]:=by cases v<;>first|rfl|(simp[V.aAD] at hf)
  have e2:v.cell 0=v:=by simp[V.cell,e1]
  rw[e2] at h0;exact h0
 |agg n=>
  refine VR.aDj hf Zm fun j hj=>?_;have:=hv j hj;simpa [Ka,hj] using this
def yP(P:Program)(o:Oper)(act:Act)(K:Ker)(R:V→Prop):Prop:=∃cv v,(execOp act.eval o).run P K.w= .ok (.value cv) K.w∧VR K v cv∧R v
section
variable{P:Program}{o:Oper}{act:Act}{K:Ker}{sl:List V}{h:Hp}{R:V→Prop}
theorem E4{t:TypeId}{k:Sh}(hk:dN P t=some k){a:Value}(hr:Rel K h){x:V}(hx:VR K x a)(l:aP)(hl:l.ev sl=x)(aAB:(bR.load k l).sem sl h R):
 ∃cv v,(Kv t a).run P K.w= .ok cv K.w∧VR K v cv∧R v:=by
 simp only[bR.sem,hl] at aAB;cases hx with
 |ptr n kk i oo hn=>
  simp only at aAB;split at aAB
  ·rename_i k' es he;obtain⟨rfl,hi,hp,hR⟩:=aAB;have hb:=hr.blk n _ he;cases hb with
   |arr _ _ c T hh hsz aBN aAG hv=>
    have aAw:es.getD i V.undef∈es:=by
     rw[Ka,Kc hi];exact Ki _
    obtain⟨f1,f2,f3⟩:=nJ hp (aAG _ aAw);have aHF:∀j,j<k.size→i*k'.size+oo+j<c.size:=fun j hj=>by
     have:=eQ (k:=k'.size) (i:=i) (j:=oo+j) (n:=es.length) or hi;omega
    have aA7:=rW hk K.w (K.mu n) (i*k'.size+oo) (fun j=>c.getD (i*k'.size+(oo+j)) Kf) (fun j hj=>by
     have:=aHF j hj;simp[Kw,hh,Array.getD,Kt,show i*k'.size+(oo+j)<c.size by omega])
    refine⟨_,_,by simp only[Kv,Kz,Ke,Km,Kd];exact aA7,VR.aAy f1 (fun j hj=>?_),hR⟩;rw[f3 j hj];exact hv i hi (oo+j) or
  exact aAB.elim
 |ept kk es i oo b off f hb aAG aAM hst hv=>
  obtain⟨hi,hp,hR⟩:=aAB;have aAw:es.getD i V.undef∈es:=by
   rw[Ka,Kc hi];exact Ki _
  obtain⟨f1,f2,f3⟩:=nJ hp (aAG _ aAw);have aA7:=rW hk K.w b (off+(i*kk.size+oo)) (fun j=>f (i*kk.size+(oo+j))) (fun j hj=>by
   have:=eQ (k:=kk.size) (i:=i) (j:=oo+j) (n:=es.length) or hi;have:=aAM (i*kk.size+(oo+j)) this;simpa [Kt] using this)
  refine⟨_,_,by simp only[Kv,Kz,Ke,Km,Kd];exact aA7,VR.aAy f1 (fun j hj=>?_),hR⟩;rw[f3 j hj];exact hv i hi (oo+j) or
 |_=>exact aAB.elim
theorem FW{op:BinOp}{k:IntKind}{a b:Int}{t:TypeId}(hop:op≠ .shl∧op≠ .shr)(hR:Aw op k a b R):∃cv v,(binOp op t (.int k a) (.int k b)).run P K.w= .ok cv K.w∧VR K v cv∧R v:=by
 cases op<;>simp only[Aw] at hR<;>first
  |exact hR.elim
  |exact⟨_,_,by simp[binOp,Op.intArith,Op.intCmp], .int _ _,hR⟩
  |exact⟨_,_,by simp[binOp,Op.intArith,Op.intCmp], .bool _,hR⟩
  |exact⟨_,_,by simp[binOp,Op.intDiv,hR.1], .int _ _,hR.2⟩
theorem FL{op:BinOp}{s t:ByteArray}{ty:TypeId}(hR:Db op s t R):∃cv v,(binOp op ty (.string s) (.string t)).run P K.w= .ok cv K.w∧VR K v cv∧R v:=by
 have hm:IntKind.i64.max=9223372036854775807:=rfl;cases op<;>simp only[Db] at hR<;>first
  |exact hR.elim
  |exact⟨_,_,by simp[binOp,Op.stringOp], .bool _,hR⟩
  |(refine⟨_,_,?_, .str _,hR.2⟩
    have:=hR.1;simp only[binOp,Op.stringOp,hm];rw[if_neg or];rfl)
end
def gL(kd:TypeId→Option (List LK)):List Field→Nat→Option (List LK)
 | [],_=>some []
 |f::fs,off=>if f.name≠ "_" ∧f.offset=off then (kd f.type).bind fun ks=>(gL kd fs (off+ks.length)).map (ks++ ·) else none
def bV(P:Program):Nat→TypeId→Option (List LK)
 |0,_=>none
 |d+1,t=>match P.underlying t with
  |some .bool=>if dN P t=some .leaf then some [.bool] else none
  |some (.int _)=>if dN P t=some .leaf then some [.int] else none
  |some .string=>if dN P t=some .leaf then some [.str] else none
  |some (.struct fs)=>if P.stoodInHeld t then none else (gL (bV P d) fs.toList 0).bind fun ks=>if dN P t=some (.agg ks.length) then some ks else none
  |_=>none
theorem sZ(k:LK)(ks:List LK)(x:V)(xs:List V)(y:V)(ys:List V):iY (k::ks) (x::xs) (y::ys)=match iZ k x y,iY ks xs ys with
 |some a,some b=>some (a&&b)
 |_,_=>none:=by
 cases ks<;>cases xs<;>cases ys<;>first|rfl|(simp[iY];done)|(simp only[iY];cases iZ k x y<;>simp)
theorem pE:∀(ks:List LK) (xs ys:List V) (r:Bool),iY ks xs ys=some r→xs.length=ks.length∧ys.length=ks.length
 | [],[],[],_,_=>⟨rfl,rfl⟩
 | [],[],_::_,_,h=>by simp[iY] at h
 | [],_::_,_,_,h=>by simp[iY] at h
 |k::ks,[],_,_,h=>by simp[iY] at h
 |k::ks,_::_,[],_,h=>by simp[iY] at h
 |k::ks,x::xs,y::ys,r,h=>by
  rw[sZ] at h;split at h
  ·rename_i a b h1 h2;have:=pE ks xs ys b h2;simp[this.1,this.2]
  simp at h
theorem am:∀(ks ks':List LK) (xs ys:List V) (r:Bool),iY (ks++ks') xs ys=some r→
 ∃r1 r2,iY ks (xs.take ks.length) (ys.take ks.length)=some r1∧iY ks' (xs.drop ks.length) (ys.drop ks.length)=some r2∧r=(r1&&r2)
 | [],ks',xs,ys,r,h=>⟨true,r,by simp[iY],by simpa using h,Zm⟩
 |k::ks,ks',xs,ys,r,h=>by
  have hl:=pE _ _ _ _ h;cases xs with
  |nil=>simp at hl
  |cons x xs=>
   cases ys with
   |nil=>simp at hl
   |cons y ys=>
    rw[List.cons_append,sZ] at h;split at h
    ·rename_i a b h1 h2;injection h with h;obtain⟨r1,r2,e1,e2,e3⟩:=am ks ks' xs ys b h2;refine⟨a&&r1,r2,?_,by simpa using e2,by rw[←h,e3,Bool.and_assoc]⟩;simp only[List.length_cons,List.take_succ_cons];rw[sZ,h1,e1]
    simp at h
theorem wU{P:Program}{t:TypeId}{k:Sh}(h:dN P t=some k)(w:World)(cs:Array Value)(f:Nat→Value)(off:Nat)(hl:off+k.size≤cs.size)(hf:∀j,j<cs.size→cs.getD j Kf=f j):
 (part t cs off).run P w= .ok (aAy k fun j=>f (off+j)) w:=by
 simp only[part,Ke,nf h,Kd];cases k with
 |leaf=>
  simp only[Sh.size] at hl;have h0:=hf off or;have:cs[off]?=some (f off):=by
   rw[Kk or];rw[Ks,Kk or] at h0;simpa using h0
  simp[this,aAy]
 |agg n=>
  simp only[Sh.size] at hl;have:cs.extract off (off+n)=((Kj n).map fun j=>f (off+j)).toArray:=by
   apply Array.ext
   ·simp;omega
   intro i h1 h2;have hi:i<n:=by simpa using h2
   have h0:=hf (off+i) or;rw[Ks,Kk or] at h0;simpa using h0
  simp only[if_true,Ke,kF h,Kd,Sh.size,Km,aAy,this]
theorem xn{P:Program}{K:Ker}(w:World):∀(d:Nat) (t:TypeId) (ks:List LK) (k:Sh),bV P d t=some ks→dN P t=some k→k.size=ks.length∧
 ∀(vs us:List V) (cx cy:Nat→Value) (r:Bool),(∀j,j<ks.length→VR K (vs.getD j V.undef) (cx j))→(∀j,j<ks.length→VR K (us.getD j V.undef) (cy j))→iY ks vs us=some r→
  (Op.equalIn d t (aAy k cx) (aAy k cy)).run P w= .ok r w
 |0,t,ks,k,h,_=>by simp[bV] at h
 |d+1,t,ks,k,h,hk=>by
  have aA5:∀(lk:LK) (dd:TypeDesc),P.underlying t=some dd→dN P t=some .leaf→ks=[lk]→(dd= .bool∧lk= .bool∨(∃kk,dd= .int kk)∧lk= .int∨dd= .string∧lk= .str)→k.size=ks.length∧
   ∀(vs us:List V) (cx cy:Nat→Value) (r:Bool),(∀j,j<ks.length→VR K (vs.getD j V.undef) (cx j))→(∀j,j<ks.length→VR K (us.getD j V.undef) (cy j))→iY ks vs us=some r→
    (Op.equalIn (d+1) t (aAy k cx) (aAy k cy)).run P w= .ok r w:=by
   intro lk dd hu hs hks hdd;rw[hk] at hs;injection hs with hs;subst hs hks;refine⟨rfl,fun vs us cx cy r hx hy hr=>?_⟩;have hl:=pE _ _ _ _ hr;obtain⟨x,rfl⟩:∃x,vs=[x]:=by
    cases vs with
    |nil=>simp at hl
    |cons x t=>cases t with
     |nil=>exact⟨x,rfl⟩
     |cons _ _=>simp at hl
   obtain⟨y,rfl⟩:∃y,us=[y]:=by
    cases us with
    |nil=>simp at hl
    |cons x t=>cases t with
     |nil=>exact⟨x,rfl⟩
     |cons _ _=>simp at hl
   have h0:VR K x (cx 0):=by simpa using hx 0 Zm
   have h1:VR K y (cy 0):=by simpa using hy 0 Zm
   simp only[aAy];simp only[iY] at hr;generalize cx 0=cvx at h0⊢;generalize cy 0=cvy at h1⊢;rcases hdd with⟨rfl,rfl⟩|⟨⟨kk,rfl⟩,rfl⟩|⟨rfl,rfl⟩
   ·cases x<;>cases y<;>simp only[iZ] at hr<;>first|(cases h0;cases h1;injection hr with hr;subst hr;exact run_equalIn_bool' w d t _ _ hu)|simp at hr
   ·cases x<;>cases y<;>simp only[iZ] at hr<;>first
     |(cases h0;cases h1;simp only[Option.ite_none_right_eq_some,Option.some.injEq] at hr;obtain⟨rfl,rfl⟩:=hr;exact run_equalIn_int w d t _ _ _ _ hu)
     |simp at hr
   cases x<;>cases y<;>simp only[iZ] at hr<;>first|(cases h0;cases h1;injection hr with hr;subst hr;exact run_equalIn_string w d t _ _ hu)|simp at hr
  unfold bV at h;split at h
  ·rename_i hu;split at h
   ·rename_i hs;injection h with h;exact aA5 .bool _ hu hs h.symm (.inl ⟨rfl,rfl⟩)
   simp at h
  ·rename_i kk hu;split at h
   ·rename_i hs;injection h with h;exact aA5 .int _ hu hs h.symm (.inr (.inl ⟨⟨kk,rfl⟩,rfl⟩))
   simp at h
  ·rename_i hu;split at h
   ·rename_i hs;injection h with h;exact aA5 .str _ hu hs h.symm (.inr (.inr ⟨rfl,rfl⟩))
   simp at h
  ·rename_i fs hu;split at h
   ·simp at h
   rename_i hst;have aGN:P.stoodInHeld t=false:=by simpa using hst
   cases hks:gL (bV P d) fs.toList 0 with
   |none=>simp[hks] at h
   |some ks0=>
    simp only[hks,KB] at h;split at h
    ·rename_i hsh;injection h with h;subst h;rw[hk] at hsh;injection hsh with hsh;subst hsh;refine⟨rfl,fun vs us cx cy r hx hy hr=>?_⟩;have hfo:P.fieldsOf t=fs:=by simp[Program.fieldsOf,hu]
     simp only[aAy];rw[run_equalIn_struct w d t _ _ (by rw[hfo];exact hu) aGN,hfo]
     --along the fields
     have key:∀(l:List Field) (off:Nat) (kl:List LK) (vs us:List V) (r:Bool),gL (bV P d) l off=some kl→off+kl.length≤ks0.length→
      (∀j,j<kl.length→VR K (vs.getD j V.undef) (cx (off+j)))→(∀j,j<kl.length→VR K (us.getD j V.undef) (cy (off+j)))→iY kl vs us=some r→
      (Op.eqFields d ((Kj ks0.length).map cx).toArray ((Kj ks0.length).map cy).toArray l).run P w= .ok r w:=by
      intro l;induction l with
      |nil=>
       intro off kl vs us r hkl _ _ _ hr;simp[gL] at hkl;subst hkl;cases vs<;>cases us<;>simp[iY] at hr;subst hr;simp[Op.eqFields]
      |cons f l ih=>
       intro off kl vs us r hkl hle hvx hvy hr;unfold gL at hkl;split at hkl
       ·rename_i hf;obtain⟨hnm,aOU⟩:=hf;cases hkf:bV P d f.type with
        |none=>simp[hkf] at hkl
        |some kf=>
         simp only[hkf,KB] at hkl;cases hkr:gL (bV P d) l (off+kf.length) with
         |none=>simp[hkr] at hkl
         |some kr=>
          simp only[hkr,Option.map_some] at hkl;injection hkl with hkl;subst hkl;obtain⟨r1,r2,e1,e2,rfl⟩:=am kf kr vs us r hr;simp only[List.length_append] at hle hvx hvy;have aWG:∃kk,dN P f.type=some kk:=by
           cases d with
           |zero=>simp[bV] at hkf
           |succ d=>
            unfold bV at hkf;split at hkf
            ·split at hkf
             ·exact⟨_,by assumption⟩
             simp at hkf
            ·split at hkf
             ·exact⟨_,by assumption⟩
             simp at hkf
            ·split at hkf
             ·exact⟨_,by assumption⟩
             simp at hkf
            ·split at hkf
             ·simp at hkf
             obtain⟨a,_,hb⟩:=Option.bind_eq_some_iff.1 hkf;split at hb
             ·exact⟨_,by assumption⟩
             simp at hb
            simp at hkf
          obtain⟨kk,hkk⟩:=aWG;obtain⟨hsz,heq⟩:=xn w d f.type kf kk hkf hkk;have gx:∀(c:Nat→Value) (j:Nat),j<((Kj ks0.length).map c).toArray.size→((Kj ks0.length).map c).toArray.getD j Kf=c j:=fun c j hj=>by
           have:j<ks0.length:=by simpa using hj
           simp[Ka,this]
          have p1:=wU hkk w ((Kj ks0.length).map cx).toArray cx f.offset (by simp;omega) (gx cx);have p2:=wU hkk w ((Kj ks0.length).map cy).toArray cy f.offset (by simp;omega) (gx cy);have ht:∀(vs:List V) (j:Nat),j<kf.length→(vs.take kf.length).getD j V.undef=vs.getD j V.undef:=fun vs j hj=>by
           simp[Ka,Kx,hj]
          have hd:∀(vs:List V) (j:Nat),(vs.drop kf.length).getD j V.undef=vs.getD (kf.length+j) V.undef:=fun vs j=>by
           simp[Ka,Ky]
          have q:=heq (vs.take kf.length) (us.take kf.length) (fun j=>cx (f.offset+j)) (fun j=>cy (f.offset+j)) r1 (fun j hj=>by rw[ht vs j hj,aOU];exact hvx j or) (fun j hj=>by rw[ht us j hj,aOU];exact hvy j or) e1;have q2:=ih (off+kf.length) kr (vs.drop kf.length) (us.drop kf.length) r2 hkr or (fun j hj=>by rw[hd];have:=hvx (kf.length+j) or;rwa [←Kt] at this) (fun j hj=>by rw[hd];have:=hvy (kf.length+j) or;rwa [←Kt] at this) e2;simp only[Op.eqFields,if_pos hnm,Ke,p1,p2,Kd,q,Sem.run_ite,q2,Km];cases r1<;>simp
       simp at hkl
     exact key fs.toList 0 ks0 vs us r hks or (fun j hj=>by simpa using hx j hj) (fun j hj=>by simpa using hy j hj) hr
    simp at h
  simp at h
end Go.Proofs.YtecepaehmojpgaaGreat
