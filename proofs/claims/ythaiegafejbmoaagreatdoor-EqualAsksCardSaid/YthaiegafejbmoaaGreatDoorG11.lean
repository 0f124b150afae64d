/- Part. -/
import Derived.Test.YthaiegafejbmoaaGreatDoorG10
import Derived.Laws.Runes
import Derived.Laws.BytesString
import Derived.Laws.Cover4
import Derived.Laws.Cells
set_option linter.unusedSectionVars false
set_option linter.unusedSimpArgs false
set_option linter.unusedVariables false
namespace Go.Ab
open Go
variable [eh]
variable {ρ ρ' :Gh} {w w' :World}{P:Program}{pn:gY}{G:Gl}{X:ig}{A:mT} {s s' :St}{env:Env}{a:Act}{lo:Nat}{d:D}{C:au}{al:Option Nat}
theorem Ft:∀ {l:List (Nat×Nat×Recv)} {t:Nat} {r:Nat×Recv},xA l t=some r->(t,r)∈l
 | [],_,_,h=>by simp [xA]at h
 | (x,g)::r,t,f,h=>by
  simp only [xA]at h;split at h
  ·rename_i hb;obtain rfl:=ay hb;simp only [aa]at h; subst h;exact List.mem_cons_self
  ·exact cW _ (Ft h)
theorem uM {name:String}{t f:Nat}{r:Recv}(h:xA (nM P name) t=some (f,r)):∃i m ptr,P.types[t]? =some i/\i.methods.find? (·.name==name)=some m/\m.func=some (f,ptr)/\IT P t m.path.toList ptr=some r:=by
 have hm:=Ft h;unfold nM at hm;simp only [jC,Prod.exists]at hm;obtain⟨i,t',h1,h2⟩:=hm;rw [jK]at h1;split at h2
 ·rename_i m hm;split at h2
  ·rename_i g ptr hf;simp only [aW,ab]at h2;obtain⟨r',h2,rfl,rfl,rfl⟩:=h2;exact⟨i,m,ptr,by simpa using h1,hm,hf,h2⟩
  ·cases h2
 ·cases h2
theorem qO {e:Option TypeDesc}{k:Nat}(h:kC e=k)(hk:k=0\/k=1):∃q,e=some q:=by
 unfold kC at h;split at h <;> first | exact ⟨_,rfl⟩ | omega
theorem CJ {xt:TypeId}{x:Place}{ptr:Bool}{wr:Option String}(h:(kC (P.underlying xt)=0/\ptr=true)\/(kC (P.underlying xt)=1/\ptr=false)):(receiverAt xt x ptr wr).run P w=(x.get xt).run P w:=by
 have hq:∃q,P.underlying xt=some q:=h.elim (fun h=>qO h.1 (.inl rfl)) (fun h=>qO h.1 (.inr rfl));obtain⟨q,hq⟩:=hq;rw [hq]at h;unfold receiverAt;rw [Sem.run_bind,run_underlying hq]
 rcases h with ⟨h,rfl⟩ | ⟨h,rfl⟩ <;> cases q <;> first
  | (simp [kC]at h; done)
  | (cases x <;> rfl)
theorem Qh {xt:TypeId}{a:Addr}{wr:Option String}(h:kC (P.underlying xt)=1):(receiverAt xt (.var a) true wr).run P w= .ok (.pointer (some a)) w:=by
 obtain⟨q,hq⟩:=qO h (.inr rfl);rw [hq]at h;unfold receiverAt;rw [Sem.run_bind,run_underlying hq]
 cases q <;> first
  | (simp [kC]at h; done)
  | rfl
theorem HX {off:Nat}{x y:D}{v:Value}(h:R8 off x=some y)(hv:aR ρ w x v):∃a,v= .pointer (some a)/\aR ρ w y (.pointer (some (a.add off))):=by
 unfold R8 at h;split at h
 ·rename_i o c;simp only [aa]at h; subst h;simp only [aR]at hv ⊢;unfold Gh.at at *;split at hv
  ·exact hv.elim
  ·obtain⟨q,rfl⟩:=hv; exact ⟨q,rfl,_,rfl⟩
  ·obtain⟨b,hb,rfl⟩:=hv; exact ⟨_,rfl,b,hb,by rw [Addr.add_mid]⟩
 ·rename_i o i c e;simp only [aa]at h; subst h;simp only [aR]at hv ⊢;unfold Gh.at at *;split at hv
  ·exact hv.elim
  ·obtain⟨q,rfl⟩:=hv; exact ⟨q,rfl,_,rfl⟩
  ·obtain⟨b,hb,h1,h2,h3,rfl⟩:=hv; exact ⟨_,rfl,b,hb,h1,h2,h3,by rw [Addr.add_mid,ia]⟩
 ·rename_i e c;simp only [aa]at h; subst h;simp only [aR]at hv ⊢;obtain⟨b,x,u,h1,h2,h3,h4,rfl⟩:=hv;exact⟨_,rfl,b,x,u,h1,h2,h3,h4,by rw [Addr.add_mid,ia]⟩
 ·cases h
theorem Qc {p:Array FieldStep}{st:FieldStep}(h:p.toList=[st]):p.isEmpty=false:=by
 cases hp:p.isEmpty with
 | false=>rfl
 | true=>
  have:p= #[]:=by simpa using hp
  rw [this]at h; cases h
theorem TB (hs:bK ρ s w){name:String}{t f n:Nat}{r:Recv} {v v' :D}{u:Value}(h:xA (nM P name) t=some (f,r))(hr:qb s v r=some v')(hv:aR ρ w v u):
  ∃u',(method (n+1) t u name).run P w= .ok (f,u') w/\aR ρ w v' u' :=by
 obtain⟨i,m,ptr,g1,g2,g3,g4⟩:=uM h;unfold IT at g4;split at g4
 ·rename_i tc;have key:(kC (P.underlying t)=0/\ptr=true)\/(kC (P.underlying t)=1/\ptr=false)->r= .self->∃u',(method (n+1) t u name).run P w= .ok (f,u') w/\aR ρ w v' u' :=by
   rintro hk rfl;simp only [qb,aa]at hr; subst hr;refine⟨u, ?_,hv⟩;simp only [method,typeInfo];simp [nL g1,g2,tc,follow,g3,CJ hk,Place.get]
  split at g4
  ·rename_i hk;simp only [aa]at g4;exact key (.inl ⟨hk,rfl⟩) g4.symm
  ·rename_i hk;simp only [aa]at g4;exact key (.inr ⟨hk,rfl⟩) g4.symm
  ·cases g4
 ·rename_i st tc;have dn:=Qc tc;split at g4
  ·rename_i fs cG;split at g4
   ·rename_i fl JY;have stepD:st.deref=true->∀(a:Addr) (m0:Nat),u= .pointer (some a)->dC P fl.type=some (m0+1)->(follow [st] t (.val u)).run P w= .ok (fl.type,.var (a.add fl.offset)) w:=by
     intro hd a m0 hu fQ;subst hu;simp [follow,run_underlying cG,JY,hd,Place.get,asAddr,fieldPlace,fD fQ]
    split at g4
    ·rename_i hd;split at g4
     ·rename_i hk;simp only [aB,iw]at hk;obtain⟨hk,abH⟩:=hk;subst abH;split at g4
      ·rename_i m0 fQ;simp only [aa]at g4; subst g4;simp only [qb]at hr;obtain⟨a,hu,ha⟩:=HX hr hv;refine⟨_, ?_,ha⟩;simp only [method,typeInfo];simp [nL g1,g2,tc,stepD hd a m0 hu fQ,g3,dn,Qh hk]
      ·cases g4
     split at g4
     ·rename_i m0 sz hkb fQ iC;simp only [aa]at g4; subst g4;simp only [qb]at hr;split at hr
      ·rename_i p hp;obtain⟨a,hu,ha⟩:=HX hp hv;obtain⟨u',k1,k2⟩:=Cx (P:=P) hs iC hr ha;have hk:(kC (P.underlying fl.type)=0/\ptr=true)\/(kC (P.underlying fl.type)=1/\ptr=false):=by
        simp only [ey,aB,iw,eR]at hkb;exact hkb
       have k1' :(loadVar fl.type (a.add fl.offset)).run P w= .ok u' w:=by
        simpa [Instr.loadAt,Instr.sureAddr] using k1
       refine⟨u', ?_,k2⟩;simp only [method,typeInfo];simp [nL g1,g2,tc,stepD hd a m0 hu fQ,g3,dn,CJ hk,Place.get,k1']
      ·cases hr
     ·cases g4
    ·rename_i hd;split at g4
     ·rename_i sz hkb iC;simp only [aa]at g4; subst g4;simp only [qb]at hr;split at hr
      ·rename_i cs;simp only [aR]at hv;obtain⟨vs,rfl,hl,J4⟩:=hv;obtain⟨u',k1,k2⟩:=qc (P:=P) (w:=w) hl J4 iC hr;have hk:(kC (P.underlying fl.type)=0/\ptr=true)\/(kC (P.underlying fl.type)=1/\ptr=false):=by
        simp only [ey,aB,iw,eR]at hkb;exact hkb
       refine⟨u', ?_,k2⟩;simp only [method,typeInfo];simp [nL g1,g2,tc,follow,run_underlying cG,JY,hd,k1,g3,dn,CJ hk,Place.get]
      ·cases hr
     ·cases g4
   ·cases g4
  ·cases g4
 ·cases g4
section
variable (he:dW ρ w lo env a.tmps)(hg:gn pn G ρ w)(hs:bK ρ s w)
include he hg hs
theorem KE (hC:cm pn P G C) {x' :Operand}{name:String}{x:bO} {args' :Array Operand}{args:List bO}(hx:ew G x' =some x)(ha:rW G args' =some args)(h:cg C env s al (.invoke (nM P name) x args)=some (d,s')){o:Oper}{tys:Array TypeId}
  (ho:o.op= .call { callee:= .invoke x' name,args:=args',argTypes:=tys}):eP P ρ w env a.tmps d s' ((execOp a.eval o).run P w):=by
 simp only [cg]at h;split at h
 ·rename_i t v l Ig hl;split at h
  ·rename_i f r hf;split at h
   ·rename_i v' hrv;have hr:=nH he hg _ _ l ha hl;have hv:=bc hx he hg Ig;simp only [aR]at hv;obtain⟨u,hv,hu⟩:=hv;obtain⟨u',aao,O0⟩:=TB (n:=P.types.size+99) hs hf hrv hu;have hq:bu ρ w (v' ::l) (u' ::List.map a.eval args'.toList):=by simp only [bu]; exact ⟨u',_,rfl,O0,hr⟩
    have fK:(execOp a.eval o).run P w= .ok (.enter f (#[u']++args'.map a.eval)) w:=by
     simp only [execOp,ho,resolve,hv];have:=hC.enter _ _ _ _ h (.inr hq.yS) (#[u']++args'.map a.eval) w;have hd:P.types.size+Made.depth=(P.types.size+99)+1:=rfl;have hex:(#[Value.iface t u]++args'.map a.eval).extract 1 (#[Value.iface t u]++args'.map a.eval).size=args'.map a.eval:=by
      apply cZ;simp only [Array.toList_extract,Array.toList_append,jf,jU,Array.size_map,jV,aT,b9,gz,dF,List.extract_eq_take_drop,nA,iu];exact fc (by simp)
     have h0:(#[Value.iface t u]++args'.map a.eval)[0]? =some (.iface t u):=by simp [Array.getElem?_append]
     have Sy:(callMethod (.iface t u) name (args'.map a.eval)).run P w= .ok (.enter f (#[u']++args'.map a.eval)) w:=by
      simp [callMethod,hd,aao,this]
     show (do let d ← (pure { target:= .fn (.method name) #[],args:= #[Value.iface t u]++args'.map a.eval}:Sem Deferred); Go.invoke d.target d.args:Sem Next).run P w=_;simp only [Sem.run_bind,Sem.run_pure,Result.andThen_ok,invoke,h0,hex];exact Sy
    rw [fK];refine⟨rfl, ?_⟩;have:=hC.calls _ _ _ _ _ ρ w (u' ::List.map a.eval args'.toList) h hs hg (by simp only [bu]; exact ⟨u',_,rfl,O0,hr⟩);have e:(u' ::List.map a.eval args'.toList).toArray= #[u']++args'.map a.eval:=by
     apply cZ; simp
    rwa [e]at this
   ·cases h
  ·cases h
 ·cases h
end
theorem AG {name:String}{t f n:Nat}{u:Value}(h:xA (nM P name) t=some (f,.self)):(nilAhead (n+1) t u name).run P w= .ok (some false) w:=by
 obtain⟨i,m,ptr,g1,g2,g3,g4⟩:=uM h;unfold IT at g4;split at g4
 ·rename_i tc;have hx:(kC (P.underlying t)=0/\ptr=true)\/(kC (P.underlying t)=1/\ptr=false):=by
   split at g4
   ·rename_i hk; exact .inl ⟨hk,rfl⟩
   ·rename_i hk; exact .inr ⟨hk,rfl⟩
   ·cases g4
  simp only [nilAhead,typeInfo];rcases hx with ⟨hk,rfl⟩ | ⟨hk,rfl⟩
  ·simp [nL g1,g2,tc,followBlind,g3]
  ·obtain⟨q,hq⟩:=qO hk (.inr rfl);rw [hq]at hk;simp only [nL g1,g2,tc,followBlind,g3,Sem.run_bind,Result.andThen_ok,Sem.run_pure,dh,run_underlying hq];simp [nL g1,g2,tc,followBlind,g3,run_underlying hq]
   cases q <;> first
    | (simp [kC]at hk; done)
    | rfl
 ·split at g4
  ·split at g4
   ·split at g4
    ·split at g4
     ·split at g4 <;> cases g4
     ·split at g4 <;> cases g4
    ·split at g4 <;> cases g4
   ·cases g4
  ·cases g4
 ·cases g4
section
variable (he:dW ρ w lo env a.tmps)(hg:gn pn G ρ w)(hs:bK ρ s w)
include he hg hs
theorem PQ {x' :Operand}{name:String}{x:bO}(hx:ew G x' =some x)(h:cg C env s al (.Bx name (nM P name) x)=some (d,s')){o:Oper}(ho:o.op= .nilCheck x'):
  eP P ρ w env a.tmps d s' ((execOp a.eval o).run P w):=by
 simp only [cg]at h;split at h
 ·rename_i n t v y Ig;split at h
  ·rename_i f hn hf;simp only [gA]at hn;subst hn;simp only [aa,ab]at h;obtain⟨rfl,rfl⟩:=h;have hv:=bc hx he hg Ig;have Xz :=hv;simp only [aR]at hv;obtain⟨va,vc,hv,hu,hc⟩:=hv
   obtain⟨u0,hl,u,rfl,O0⟩:∃u0,va.toList=[u0]/\∃u,u0= .iface t u/\aR ρ w v u:=by
    simp only [bu]at hu;obtain⟨q,r,e1,e2,e3⟩:=hu;subst e3;simp only [aR]at e2;obtain⟨u,e4,e5⟩:=e2;exact⟨q,e1,u,e4,e5⟩
   have h0:va[0]? =some (.iface t u):=by
    rw [← Array.getElem?_toList,hl]; rfl
   have hna:=AG (P:=P) (w:=w) (n:=P.types.size+99) (u:=u) hf;have hd:P.types.size+Made.depth=(P.types.size+99)+1:=rfl;have fK:(execOp a.eval o).run P w= .ok (.value (a.eval x')) w:=by
    simp only [execOp,ho,hv,h0];simp [hd,hna]
   rw [fK];exact .rep hs Xz
  ·cases h
 ·cases h
end
end Go.Ab
namespace Go.Ab
open Go
variable [eh]
variable {ρ ρ' :Gh} {w w' :World}{P:Program}{pn:gY}{G:Gl}{X:ig}{A:mT} {s s' :St}{env:Env}{a:Act}{lo:Nat}{d:D}{C:au}{al:Option Nat}
section
variable (he:dW ρ w lo env a.tmps)(hg:gn pn G ρ w)(hs:bK ρ s w)
include he hg hs
theorem G3 {t e:TypeId}{m bytes:Nat}{i:TypeInfo}{z:D} {l' c' :Operand}{l c:bO}(hl:ew G l' =some l)(hc:ew G c' =some c)(hu:P.underlying t=some (.slice e))(fQ:dC P e=some (m+1))(hz:jA P e=some z)(hi:P.info? e=some i)(hb:i.bytes=bytes)
  (h:cg C env s al (.nN (m+1) bytes e z l c)=some (d,s')){o:Oper}(ho:o.op= .makeSlice t l' c'):eP P ρ w env a.tmps d s' ((execOp a.eval o).run P w):=by
 simp only [cg]at h;split at h
 ·rename_i dl dc hdl hdc;have mM:=bc hl he hg hdl;have C5:=bc hc he hg hdc;split at h
  ·rename_i nl nc qS Xp;split at h
   ·rename_i h1 h2 h3;simp only [aB]at h1;obtain⟨h1,fN⟩:=h1;have h1:=az h1;have h2:=az h2;have h3:=az h3;have hmx:aM=2147483648:=rfl;split at h
    ·rename_i k s2 hm;simp only [aa,ab]at h;obtain⟨rfl,rfl⟩:=h
     obtain⟨kl,vl,e1,e2⟩:∃k n,a.eval l' = .int k n/\(0<=n/\n.toNat=nl):=by
      unfold idx at qS;split at qS
      ·split at qS
       ·simp only [aa]at qS;simp only [aR]at mM;exact⟨_,_,mM,by assumption,qS⟩
       ·cases qS
      ·cases qS
     obtain⟨kc,vc,e3,e4⟩:∃k n,a.eval c' = .int k n/\(0<=n/\n.toNat=nc):=by
      unfold idx at Xp;split at Xp
      ·split at Xp
       ·simp only [aa]at Xp;simp only [aR]at C5;exact⟨_,_,C5,by assumption,Xp⟩
       ·cases Xp
      ·cases Xp
     obtain⟨zv,z1,z2,z3⟩:=ki (w:=w) hz;have Aq:=jY (ρ:=ρ) (w:=w) zv z z2;have Ii:zv.cells.size=m+1/\z.st=true:=by
      have:=gL.1 fN z (by simp);exact⟨by rw [Aq.size this.2]; exact this.1,this.2⟩
     have Lf:vl=(nl:Int):=by omega
     have hec:vc=(nc:Int):=by omega
     let cs:Array Value:=(Array.range (nc * (m+1))).map (zv.cells[· % (m+1)]!)
     have qW:cs.toList=(List.replicate nc zv.cells.toList).flatten:=by
      have:=sL zv.cells (by omega) nc;rw [Ii.1]at this;exact this
     have Xv:cs.toList=(List.replicate nl zv.cells.toList).flatten++(List.replicate (nc - nl) zv.cells.toList).flatten:=by
      rw [qW,← List.flatten_append,List.replicate_append_replicate]
      congr 2; omega
     obtain⟨ρ',n1,n2,n3⟩:=CC (w' :=w.alloc (.cells cs e)) (cs:=cs) (cp:=nc) hs (ku m) hm (fT.replicate Aq Ii.1 Ii.2 nl) Xv (by simp [cs]) (by simpa using h1) rfl rfl rfl rfl;have hr:(execOp a.eval o).run P w= .ok (.value (.slice (some ⟨w.heap.size,0,none⟩) nl nc)) (w.alloc (.cells cs e)):=by
      simp only [execOp,ho,e1,e3,Lf,hec];have hti:(typeInfo e).run P w= .ok i w:=by simp [typeInfo,hi]
      have w1:=wrap_small (nl:Int) (by omega) (by omega);have w2:=wrap_small (nc:Int) (by omega) (by omega);have xq: ¬ ((i.bytes:Int) * (nc:Int) > 2 ^ 48):=by
       rw [hb];have:((bytes:Int) * (nc:Int))=((nc * bytes:Nat):Int):=by rw [Int.natCast_mul,Int.mul_comm]
       rw [this]; omega
      have sS: ¬ ((nl:Int) < 0):=by omega
      have xr: ¬ ((nc:Int) < 0):=by omega
      have hlc: ¬ ((nl:Int) > (nc:Int)):=by omega
      have pq: ¬ (nc * i.bytes > roomBytes):=by
       have:roomBytes=2 ^ 47:=rfl;rw [this,hb]; omega
      have ZY : ¬ ((2:Int) ^ 48 < (i.bytes:Int) * (nc:Int)):=xq;have abi:(askRoom (nc * i.bytes)).run P w= .ok () w:=by unfold askRoom; rw [aI pq]; rfl
      unfold Instr.makeSlice;rw [Sem.run_bind,Sem.run_bind,run_underlying hu];simp only [Result.andThen_ok,asInt,asIntOf,Sem.run_bind,Sem.run_pure,hti,w1,w2];have ZZ: ¬ ((281474976710656:Int) < (i.bytes:Int) * (nc:Int)):=ZY;simp [sS,xr,hlc,ZZ,abi,fD fQ];have hle:nl<=nc:=h1;by_cases h0:nc * (m+1)=0
      ·have Bi:nc=0:=by
        rcases Nat.mul_eq_zero.1 h0 with h | h
        ·exact h
        ·omega
       have UA:cs= #[]:=by apply cZ; rw [qW,Bi]; rfl
       rw [UA];have hE:∀f:Nat->Value,Array.map f (Array.range 0)= #[]:=fun f=>by apply cZ; simp
       simp [hle,Bi,newRow,newObj,hE];rfl
      ·simp [hle,h0,z1,Ii.1,newRow,newObj];rfl
     rw [hr];simp only [cM]at n3;exact .val n1 n2 n3
    ·cases h
   ·cases h
  ·cases h
 ·cases h
end
end Go.Ab
namespace Go.Ab
open Go
variable [eh]
variable {ρ ρ' :Gh} {w w' :World}{P:Program}{pn:gY}{G:Gl}{X:ig}{A:mT} {s s' :St}{env:Env}{a:Act}{lo:Nat}{d:D}{C:au}{al:Option Nat}
theorem pG {z b:Nat}:∀ {l:List D} {y:Nat} {bs:List UInt8},bytesOf l=some bs->(z=1\/l=[])->fJ ρ w z b y l->∃ns:List Int,ns.length=l.length/\(∀j n,ns[j]? =some n->w.cell? ⟨b,y+j,none⟩=some (.int .u8 n))/\
  ∀p:List UInt8,ns.foldl (fun (r:ByteArray) n=>r.push (UInt8.ofNat n.toNat)) ⟨⟨p⟩⟩=⟨⟨p++bs⟩⟩
 | [],y,bs,h,_,_=>by
  simp only [bytesOf,aa]at h; subst h;exact⟨[],rfl,fun j n hj=>by simp at hj,fun p=>by simp⟩
 | d::r,y,bs,h,hz,hE=>by
  obtain rfl:z=1:=by rcases hz with h | h; exact h; cases h
  unfold bytesOf at h;split at h
  ·rename_i hh; cases hh
  ·rename_i n r' hh;simp only [eN]at hh;obtain⟨rfl,rfl⟩:=hh;split at h
   ·rename_i bs' hb;simp only [aa]at h; subst h;simp only [fJ]at hE;obtain⟨⟨v,h1,h2,h3,h4,h5⟩,h6⟩:=hE;simp only [aR]at h1; subst h1;obtain⟨ns,g1,g2,g3⟩:=pG hb (.inl rfl) h6;refine⟨n::ns,by simp [g1],fun j m hj=> ?_,fun p=> ?_⟩
    ·cases j with
     | zero=>
      simp only [aS,aa]at hj; subst hj;have:=h4 0 (by simp [Value.cells]);simpa [Value.cells] using this
     | succ j=>
      simp only [bP]at hj;have:=g2 j m hj;rwa [show y+(j+1)=y+1+j by omega]
    ·simp only [mU];have:(⟨⟨p⟩⟩:ByteArray).push (UInt8.ofNat n.toNat)=⟨⟨p++ [UInt8.ofNat n.toNat]⟩⟩:=by simp [ByteArray.push]
     rw [this,g3]; simp
   ·cases h
  ·cases h
theorem sV {z b:Nat}:∀ {l:List D} {y:Nat} {bs:List UInt8},su l=some bs->(z=1\/l=[])->fJ ρ w z b y l->∃ns:List Int,ns.length=l.length/\(∀j n,ns[j]? =some n->w.cell? ⟨b,y+j,none⟩=some (.int .i32 n))/\
  ∀p:List UInt8,ns.foldl (fun (r:ByteArray) n=>r++Utf8.encode n) ⟨⟨p⟩⟩=⟨⟨p++bs⟩⟩
 | [],y,bs,h,_,_=>by
  simp only [su,aa]at h; subst h;exact⟨[],rfl,fun j n hj=>by simp at hj,fun p=>by simp⟩
 | d::r,y,bs,h,hz,hE=>by
  obtain rfl:z=1:=by rcases hz with h | h; exact h; cases h
  unfold su at h;split at h
  ·rename_i hh; cases hh
  ·rename_i n r' hh;simp only [eN]at hh;obtain⟨rfl,rfl⟩:=hh;split at h
   ·rename_i bs' hb;simp only [aa]at h; subst h;simp only [fJ]at hE;obtain⟨⟨v,h1,h2,h3,h4,h5⟩,h6⟩:=hE;simp only [aR]at h1; subst h1;obtain⟨ns,g1,g2,g3⟩:=sV hb (.inl rfl) h6;refine⟨n::ns,by simp [g1],fun j m hj=> ?_,fun p=> ?_⟩
    ·cases j with
     | zero=>
      simp only [aS,aa]at hj; subst hj;have:=h4 0 (by simp [Value.cells]);simpa [Value.cells] using this
     | succ j=>
      simp only [bP]at hj;have:=g2 j m hj;rwa [show y+(j+1)=y+1+j by omega]
    ·simp only [mU];have:(⟨⟨p⟩⟩:ByteArray)++Utf8.encode n=⟨⟨p++(Utf8.encode n).data.toList⟩⟩:=ByteArray.mk_append_mk p (Utf8.encode n).data.toList;rw [this,g3]; simp
   ·cases h
  ·cases h
section
variable (he:dW ρ w lo env a.tmps)(hg:gn pn G ρ w)(hs:bK ρ s w)
include he hg hs
omit he hg hs in
theorem PB {z:Nat}{l:List D}(h:(Nat.beq z 1 || (match l with | []=>true | _=>false))=true):z=1\/l=[]:=by
 simp only [ey]at h;rcases h with h | h
 ·exact .inl (ay h)
 ·cases l with
  | nil=>exact .inr rfl
  | cons _ _=>simp at h
omit he hg hs in
theorem Br {b y:Nat}{k:IntKind}{ns:List Int}(h:∀j n,ns[j]? =some n->w.cell? ⟨b,y+j,none⟩=some (.int k n)):(loadCells ⟨b,y,none⟩ ns.length).run P w= .ok (ns.map (Value.int k)).toArray w:=by
 have:=run_loadCells_list (P:=P) (w:=w) ⟨b,y,none⟩ (ns.map (Value.int k)) (fun j v hj=>by
  rw [aO,aW]at hj;obtain⟨n,hn,rfl⟩:=hj;rw [Addr.add_mid];exact h j n hn)
 simpa using this
theorem AH {t u e:TypeId} {x' :Operand}{x:bO}(hx:ew G x' =some x)(ht:P.underlying t=some (.slice e))(Z8:P.underlying e=some (.int .u8))(hu:P.underlying u=some .string)(h:cg C env s al (.kS x)=some (d,s')){o:Oper}(ho:o.op= .convert t u x'):
  eP P ρ w env a.tmps d s' ((execOp a.eval o).run P w):=by
 simp only [cg]at h;split at h
 ·rename_i p hp;have hv:=bc hx he hg hp;split at h
  ·rename_i z l hit;split at h
   ·rename_i bs hz hb;simp only [aa,ab]at h;obtain⟨rfl,rfl⟩:=h;have hz:=PB hz
    have fin:(∃q n c,a.eval x' = .slice q n c)->(Conv.bytesToString (a.eval x')).run P w= .ok (.string ⟨⟨bs⟩⟩) w->eP P ρ w env a.tmps (.str bs) s ((execOp a.eval o).run P w):=fun ⟨q,n,c,td⟩ hr=>by
     have fK:(execOp a.eval o).run P w= .ok (.value (.string ⟨⟨bs⟩⟩)) w:=by
      rw [td]at hr;simp only [execOp,ho,convert,td];simp [run_underlying ht,run_underlying hu,run_underlying Z8,hr]
     rw [fK]; exact .rep hs (by simp [aR])
    rcases uF hs hit hv with ⟨rfl,q,c,hv⟩ | ⟨b,y,c,hv,hE⟩
    ·refine fin ⟨_,_,_,hv⟩ ?_;simp only [bytesOf,aa]at hb; subst hb;rw [hv];cases q with
     | none=>simp [Conv.bytesToString]; rfl
     | some ad=>
      have:=run_bytesToString (P:=P) w ad 0 c [] (by simp [loadCells,loadCellsFrom]);exact this
    ·refine fin ⟨_,_,_,hv⟩ ?_;obtain⟨ns,g1,g2,g3⟩:=pG hb hz hE;have hl:=Br (P:=P) g2;rw [g1]at hl;rw [hv,run_bytesToString w _ _ c ns hl];have:=g3 [];simp only [dF]at this;exact congrArg (fun q=>Result.ok (Value.string q) w) this
   ·cases h
  ·cases h
 ·cases h
theorem AI {t u e:TypeId} {x' :Operand}{x:bO}(hx:ew G x' =some x)(ht:P.underlying t=some (.slice e))(Z8:P.underlying e=some (.int .i32))(hu:P.underlying u=some .string)(h:cg C env s al (.kW x)=some (d,s')){o:Oper}(ho:o.op= .convert t u x'):
  eP P ρ w env a.tmps d s' ((execOp a.eval o).run P w):=by
 simp only [cg]at h;split at h
 ·rename_i p hp;have hv:=bc hx he hg hp;split at h
  ·rename_i z l hit;split at h
   ·rename_i bs hz hb;simp only [aa,ab]at h;obtain⟨rfl,rfl⟩:=h;have hz:=PB hz
    have fin:(∃q n c,a.eval x' = .slice q n c)->(Conv.runesToString (a.eval x')).run P w= .ok (.string ⟨⟨bs⟩⟩) w->eP P ρ w env a.tmps (.str bs) s ((execOp a.eval o).run P w):=fun ⟨q,n,c,td⟩ hr=>by
     have fK:(execOp a.eval o).run P w= .ok (.value (.string ⟨⟨bs⟩⟩)) w:=by
      rw [td]at hr;simp only [execOp,ho,convert,td];simp [run_underlying ht,run_underlying hu,run_underlying Z8,hr]
     rw [fK]; exact .rep hs (by simp [aR])
    rcases uF hs hit hv with ⟨rfl,q,c,hv⟩ | ⟨b,y,c,hv,hE⟩
    ·refine fin ⟨_,_,_,hv⟩ ?_;simp only [su,aa]at hb; subst hb;rw [hv];cases q with
     | none=>simp [Conv.runesToString]; rfl
     | some ad=>
      have:=run_runesToString (P:=P) w ad 0 c [] (by simp [loadCells,loadCellsFrom]);exact this
    ·refine fin ⟨_,_,_,hv⟩ ?_;obtain⟨ns,g1,g2,g3⟩:=sV hb hz hE;have hl:=Br (P:=P) g2;rw [g1]at hl;rw [hv,run_runesToString w _ _ c ns hl];have:=g3 [];simp only [dF]at this;exact congrArg (fun q=>Result.ok (Value.string q) w) this
   ·cases h
  ·cases h
 ·cases h
end
end Go.Ab
namespace Go.Ab
open Go
variable {s s' :St}{C:au}{L:gO}{e:Env}{al:Option Nat}{d:D}
theorem Te {x:Option D}(h:pw s x=some (d,s')):s' =s:=by cases x <;> simp [pw]at h; exact h.2.symm
theorem pN (hr:s.ro=true)(o:Nat)(x:Obj):s.set o x=none:=by unfold St.set; rw [hr]
theorem Bv (hr:s.ro=true)(al:Option Nat)(x:Obj):s.mk' al x=none:=by unfold St.mk'; rw [hr]
theorem oe (hr:s.ro=true)(sz:Nat)(p v:D):jI s sz p v=none:=by
 unfold jI
 repeat' split
 all_goals first
  | rfl
  | exact pN hr _ _
theorem JH (hr:s.ro=true){sz:Nat}{p:D}{l:List D}(h:iA s sz p l=some s'):s' =s:=by
 unfold iA at h
 repeat' split at h
 all_goals first
  | (cases h; done)
  | (rw [pN hr]at h; cases h; done)
  | (simp only [aa]at h; exact h.symm)
theorem Gd (hr:s.ro=true){sz ty:Nat}{x:D}{l:List D}(h:ff s al sz ty x l=some (d,s')):s' =s:=by
 unfold ff at h;simp only [pN hr,Bv hr]at h
 repeat' split at h
 all_goals first
  | (cases h; done)
  | (simp only [aa,ab]at h; exact h.2.symm)
  | (simp at h; done)
theorem R5 (hr:s.ro=true){k:Ext}{l:List D}(h:DY s k l=some (d,s')):s' =s:=by
 unfold DY at h;simp only [oe hr,nY]at h
 repeat' split at h
 all_goals first
  | (cases h; done)
  | (simp only [aa,ab]at h; exact h.2.symm)
  | (simp at h; done)
def FJ (C:au):Prop:=∀f l s d s',s.ro=true->C f l s=some (d,s')->s' =s
def Vy (L:gO):Prop:=∀k a fr s e fr' s',s.ro=true->L k a fr s=some (e,fr',s')->s' =s
theorem XZ (hC:FJ C)(hr:s.ro=true){p:eE}(h:cg C e s al p=some (d,s')):s' =s:=by
 cases p <;> simp only [cg,pN hr,Bv hr,oe hr,nY]at h
 all_goals
  (repeat' split at h)
  all_goals first
   | (cases h; done)
   | exact Te h
   | (simp only [aa,ab]at h; exact h.2.symm)
   | exact hC _ _ _ _ _ hr h
   | exact Gd hr h
   | exact R5 hr h
   | (rename_i h1; simp only [aa,ab]at h; obtain ⟨rfl,rfl⟩:=h; exact JH hr h1)
   | trace_state
theorem xS (hC:FJ C)(hr:s.ro=true){b:Nat}{o:bz} {fr fr' :Fr}(h:oper C b o fr s=some (fr',s')):s' =s:=by
 unfold oper at h;split at h
 ·split at h
  ·split at h
   ·simp only [aa,ab]at h; exact h.2.symm
   ·cases h
  ·split at h
   ·split at h
    ·simp only [aa,ab]at h; exact h.2.symm
    ·cases h
   ·cases h
  ·split at h
   ·split at h
    ·split at h
     ·simp only [aa,ab]at h; exact h.2.symm
     ·cases h
    ·cases h
   ·cases h
  ·split at h
   ·rename_i h1;simp only [aa,ab]at h;obtain⟨_,rfl⟩:=h;exact XZ hC hr h1
   ·cases h
 ·simp only [aa,ab]at h; exact h.2.symm
 ·cases h
theorem EM (hC:FJ C){b:Nat}:∀ {l:List bz} {s s' :St} {fr fr' :Fr},s.ro=true->opers C b l fr s=some (fr',s')->s' =s
 | [],s,s',fr,fr',hr,h=>by simp only [opers,aa,ab]at h; exact h.2.symm
 | o::r,s,s',fr,fr',hr,h=>by
  simp only [opers]at h;split at h
  ·rename_i h1;obtain rfl:=xS hC hr h1;exact EM hC hr h
  ·cases h
theorem A2 (hC:FJ C){b:Nat}:∀ {l:List (bz×List Nat)} {acc:List Fp} {s s' :St} {fr fr' :Fr},s.ro=true->gZ C b l acc fr s=some (fr',s')->s' =s
 | [],_,s,s',fr,fr',hr,h=>by simp only [gZ,aa,ab]at h; exact h.2.symm
 | (o,q)::r,_,s,s',fr,fr',hr,h=>by
  simp only [gZ]at h;split at h
  ·split at h
   ·rename_i h1;obtain rfl:=xS hC hr h1;split at h
    ·exact A2 hC hr h
    ·cases h
   ·cases h
  ·cases h
theorem gv (hC:FJ C)(hL:Vy L):∀ {a:AC} {s s' :St} {fr fr' :Fr} {e:Ex},s.ro=true->bN C L a fr s=some (e,fr',s')->s' =s
 | .skip,s,s',fr,fr',e,hr,h=>by simp only [bN,aa,ab]at h; exact h.2.2.symm
 | .AL ops,s,s',fr,fr',e,hr,h=>by
  simp only [bN]at h;split at h
  ·rename_i h1;simp only [aa,ab]at h;obtain⟨_,_,rfl⟩:=h;exact EM hC hr h1
  ·cases h
 | .yF k ops,s,s',fr,fr',e,hr,h=>by
  simp only [bN]at h;split at h
  ·cases h
  ·rename_i hk;split at h
   ·rename_i h1;simp only [aa,ab]at h;obtain⟨_,_,rfl⟩:=h;have FP:k=0:=by
     rw [hr,fO]at hk;rcases eV k with h | h
     ·exact h
     ·have:Nat.blt 0 k=true:=ax h;rw [this]at hk; cases hk
    subst FP;exact A2 (s:=s) hC hr h1
   ·cases h
 | .seq a b,s,s',fr,fr',e,hr,h=>by
  simp only [bN]at h;split at h
  ·rename_i h1;obtain rfl:=gv hC hL hr h1;exact gv hC hL hr h
  ·exact gv hC hL hr h
 | .cond c a b,s,s',fr,fr',e,hr,h=>by
  simp only [bN]at h;split at h
  ·exact gv hC hL hr h
  ·exact gv hC hL hr h
  ·cases h
 | .block id a,s,s',fr,fr',e,hr,h=>by
  simp only [bN]at h;split at h
  ·rename_i h1;obtain rfl:=gv hC hL hr h1;split at h
   ·simp only [aa,ab]at h; exact h.2.2.symm
   ·simp only [aa,ab]at h; exact h.2.2.symm
  ·exact gv hC hL hr h
 | .loop bM a,s,s',fr,fr',e,hr,h=>by
  simp only [bN]at h;exact hL _ _ _ _ _ _ _ hr h
 | .iF bM g ps x y,s,s',fr,fr',e,hr,h=>by
  simp only [bN]at h;exact hL _ _ _ _ _ _ _ hr h
 | .exit id,s,s',fr,fr',e,hr,h=>by simp only [bN,aa,ab]at h; exact h.2.2.symm
 | .ret,s,s',fr,fr',e,hr,h=>by simp only [bN,aa,ab]at h; exact h.2.2.symm
 | .bad,s,s',fr,fr',e,hr,h=>by simp [bN]at h
theorem uJ (hC:FJ C):∀ {l:List (D×List D)} {s s' :St},s.ro=true->leave C l s=some s' ->s' =s
 | [],s,s',hr,h=>by simp only [leave,aa]at h; exact h.symm
 | (f,l)::r,s,s',hr,h=>by
  unfold leave at h;split at h
  ·rename_i hh; cases hh
  ·rename_i hh;simp only [eN,ab]at hh;obtain⟨⟨rfl,rfl⟩,rfl⟩:=hh;split at h
   ·rename_i h1;obtain rfl:=hC _ _ _ _ _ hr h1;exact uJ hC hr h
   ·cases h
  ·rename_i hh;simp only [eN,ab]at hh;obtain⟨⟨rfl,rfl⟩,rfl⟩:=hh;exact uJ hC hr h
  ·cases h
theorem Qq {CD:au}(hC:FJ C)(On:FJ CD)(hL:Vy L)(hr:s.ro=true){fn:dJ}{args:List D}(h:nE C CD L fn args s=some (d,s')):s' =s:=by
 unfold nE at h;split at h
 ·cases h
 ·rename_i h1;obtain rfl:=gv hC hL hr h1;split at h
  ·rename_i h2;obtain rfl:=uJ On hr h2;split at h
   ·simp only [aa,ab]at h; exact h.2.symm
   ·cases h
  ·cases h
 ·cases h
theorem Dz {T:Nat->Option dJ}(hC:FJ C)(hL:Vy L):FJ (oE T C L):=by
 intro f l s d s' hr h;unfold oE at h;split at h
 ·unfold wu at h;split at h
  ·cases h
  ·rename_i h1;obtain rfl:=gv hC hL hr h1;split at h
   ·split at h
    ·simp only [aa,ab]at h; exact h.2.symm
    ·cases h
   ·cases h
  ·cases h
 ·cases h
theorem oF {T:Nat->Option dJ}{H:au}(hH:FJ H):∀n,FJ (cV T H n)/\Vy (eT T H n)
 | 0=>⟨fun f l s d s' _ h=>by simp [cV]at h,fun k a fr s e fr' s' _ h=>by simp [eT]at h⟩
 | n+1=>by
  obtain⟨i1,i2⟩:=oF (T:=T) hH n;refine⟨fun f l s d s' hr h=> ?_,fun k a fr s e fr' s' hr h=> ?_⟩
  ·simp only [cV]at h;split at h
   ·exact hH _ _ _ _ _ hr h
   ·split at h
    ·exact Qq i1 (Dz i1 i2) i2 hr h
    ·exact hH _ _ _ _ _ hr h
  ·cases hb:a.iD with
   | true=>
    cases a <;> first | (cases hb; done) | skip
    rw [jy,BG hr]at h; cases h
   | false=>
    rw [ib _ _ _ _ hb]at h;split at h
    ·rename_i h1;obtain rfl:=gv i1 i2 hr h1;exact i2 _ _ _ _ _ _ _ hr h
    ·exact gv i1 i2 hr h
end Go.Ab
namespace Go.Ab
open Go
variable [eh]
variable {ρ ρ' :Gh} {w w' :World}{P:Program}{pn:gY}{G:Gl}{X:ig}{A:mT} {s s' :St}{env:Env}{a:Act}{lo:Nat}{d:D}{C:au}{al:Option Nat}
theorem bK.aaN {b:Bool}(h:bK ρ s w):bK ρ { s with ro:=b} w:=⟨h.lt,h.ok,h.no,h.live,h.size⟩
theorem bK.aaI {b:Bool}(h:bK ρ { s with ro:=b} w):bK ρ s w:=⟨h.lt,h.ok,h.no,h.live,h.size⟩
section
variable (he:dW ρ w lo env a.tmps)(hg:gn pn G ρ w)(hs:bK ρ s w)
include he hg hs
theorem KB (hC:cm pn P G C){f:FuncId} {args' :Array Operand}{args:List bO}(ha:rW G args' =some args)(h:cg C env s al (.call true f args)=some (d,s')){o:Oper}{tys:Array TypeId}
  (ho:o.op= .call { callee:= .value (.func f),args:=args',argTypes:=tys}):eP P ρ w env a.tmps d s' ((execOp a.eval o).run P w):=by
 simp only [cg]at h;split at h
 ·rename_i l hl;split at h
  ·rename_i d1 s1 h1;simp only [aa,ab]at h;obtain⟨rfl,rfl⟩:=h;have hr:=nH he hg _ _ l ha hl;have fK:(execOp a.eval o).run P w= .ok (.enter f (args'.map a.eval)) w:=by
    simp only [execOp,ho,resolve,Act.eval,Deferred.ofValue];have:=hC.enter _ _ _ _ h1 (.inr hr.yS) (args'.map a.eval) w;simpa [invoke] using this
   rw [fK];refine⟨rfl, ?_⟩;have:=hC.calls _ _ _ _ _ ρ w _ h1 hs.aaN hg hr;have qz:s1= { s with ro:=true}:=hC.ro _ _ _ _ _ rfl h1;subst qz;have e:(List.map a.eval args'.toList).toArray=args'.map a.eval:=by simp [← Array.toList_map]
   rw [e]at this;refine this.mono fun en w' hp=> ?_;cases en with
   | returned v=>obtain ⟨ρ',k1,k2,k3⟩:=hp; exact ⟨ρ',k1,k2.aaI,k3⟩
   | panicked _=>exact hp
   | outgrown=>exact hp
  ·cases h
 ·cases h
end
end Go.Ab
