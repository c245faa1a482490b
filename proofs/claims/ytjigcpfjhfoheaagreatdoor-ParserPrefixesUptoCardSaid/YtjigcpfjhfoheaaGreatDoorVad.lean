/- The parser as plain functions on a list of tokens; no program in sight; The reference's reader as plain functions; it reads as the parser does; Readers never go back; statements; the reference reads as the parser does; Readers loo. -/
import Derived.Test.YtjigcpfjhfoheaaGreatDoorVab
namespace Go.Proofs.YtjigcpfjhfoheaaGreatDoor
open Go.RowKit List Go.Proofs.Tryz
set_option maxHeartbeats 1000000
set_option maxRecDepth 100000
set_option linter.unusedVariables false
set_option linter.unusedSimpArgs false
section
open Lx (Tk)
structure Ps where
 r:List Tk
 bad:Bool
def Ps.hd (s:Ps):Tk:=s.r.headD ⟨0,[],0⟩
def Ps.next (s:Ps):Ps:=⟨s.r.tail,s.bad⟩
def Ps.fail (s:Ps):Ps:=⟨s.r,true⟩
def tkB (t:Tk):BA:=⟨t.text.toArray⟩
abbrev M (α:Type):=Ps→α×Ps
def isS (t:BA) (s:Ps):Bool:=!s.bad&& ((s.hd.kind==2||s.hd.kind==5) &&decide (tkB s.hd=t))
def ir (t:BA):M Bool:=fun s=> (isS t s,if isS t s then s.next else s)
def needP (t:BA) (s:Ps):Ps:=if isS t s then s.next else s.fail
def hasK (k:Nat) (s:Ps):Bool:=!s.bad&&s.hd.kind==k
def takP (k:Nat):M BA:=fun s=>if hasK k s then (tkB s.hd,s.next)else (⟨#[]⟩,s.fail)
def digV (b:BA):Int:=(Lx.digVal b.data.toList:Nat)
def numP:M Int:=fun s=> (digV (takP 3 s).1,(takP 3 s).2)
def posP:M Int:=fun s=>numP (if hasK 3 s&&digV (tkB s.hd)==0 then s.fail else s)
def opE (o:Int) (ks:List Ex):Ex:= .mk ⟨o,⟨#[]⟩,⟨#[]⟩,0,0,0,⟨#[]⟩⟩ ks
def dF (k i:Int) (t:BA):Ex:= .mk ⟨1,⟨#[]⟩,⟨#[]⟩,0,k,i,t⟩ []
def colE (t n:BA):Ex:= .mk ⟨2,t,n,0,0,0,⟨#[]⟩⟩ []
abbrev kAND:BA:=⟨#[65,78,68]⟩
abbrev kNOT:BA:=⟨#[78,79,84]⟩
abbrev kIS:BA:=⟨#[73,83]⟩
abbrev kNULL:BA:=⟨#[78,85,76,76]⟩
abbrev oo:BA:=⟨#[76,73,75,69]⟩
abbrev gB:BA:=⟨#[66,69,84,87,69,69,78]⟩
abbrev kIN:BA:=⟨#[73,78]⟩
abbrev iZ:BA:=⟨#[76,69,78,71,84,72]⟩
abbrev cq:BA:=⟨#[67,82,69,65,84,69]⟩
abbrev kTABLE:BA:=⟨#[84,65,66,76,69]⟩
abbrev cM:BA:=⟨#[73,78,83,69,82,84]⟩
abbrev kINTO:BA:=⟨#[73,78,84,79]⟩
abbrev kVALUES:BA:=⟨#[86,65,76,85,69,83]⟩
abbrev dd:BA:=⟨#[85,80,68,65,84,69]⟩
abbrev kSET:BA:=⟨#[83,69,84]⟩
abbrev dP:BA:=⟨#[68,69,76,69,84,69]⟩
abbrev kFROM:BA:=⟨#[70,82,79,77]⟩
abbrev dQ:BA:=⟨#[83,69,76,69,67,84]⟩
abbrev gC:BA:=⟨#[66,69,71,73,78]⟩
abbrev fB:BA:=⟨#[67,79,77,77,73,84]⟩
abbrev dR:BA:=⟨#[82,79,76,76,66,65,67,75]⟩
abbrev kTO:BA:=⟨#[84,79]⟩
abbrev ej:BA:=⟨#[83,65,86,69,80,79,73,78,84]⟩
abbrev eG:BA:=⟨#[82,69,76,69,65,83,69]⟩
abbrev eH:BA:=⟨#[87,72,69,82,69]⟩
abbrev eI:BA:=⟨#[80,82,73,77,65,82,89]⟩
abbrev kKEY:BA:=⟨#[75,69,89]⟩
abbrev fC:BA:=⟨#[85,78,73,81,85,69]⟩
abbrev iu:BA:=⟨#[67,72,69,67,75]⟩
abbrev ea:BA:=⟨#[70,79,82,69,73,71,78]⟩
abbrev kREFERENCES:BA:=⟨#[82,69,70,69,82,69,78,67,69,83]⟩
abbrev eJ:BA:=⟨#[73,78,84,69,71,69,82]⟩
abbrev pi:BA:=⟨#[84,69,88,84]⟩
abbrev jx:BA:=⟨#[74,79,73,78]⟩
abbrev kON:BA:=⟨#[79,78]⟩
abbrev iw:BA:=⟨#[71,82,79,85,80]⟩
abbrev kBY:BA:=⟨#[66,89]⟩
abbrev iy:BA:=⟨#[79,82,68,69,82]⟩
abbrev ln:BA:=⟨#[76,73,77,73,84]⟩
abbrev kAS:BA:=⟨#[65,83]⟩
abbrev kASC:BA:=⟨#[65,83,67]⟩
abbrev jJ:BA:=⟨#[68,69,83,67]⟩
abbrev yLp:BA:=⟨#[40]⟩
abbrev yRp:BA:=⟨#[41]⟩
abbrev yCm:BA:=⟨#[44]⟩
abbrev nq:BA:=⟨#[46]⟩
abbrev cZ:BA:=⟨#[42]⟩
abbrev dJ:BA:=⟨#[45]⟩
abbrev yEq:BA:=⟨#[61]⟩
abbrev jy:BA:=⟨#[59]⟩
def firstP:List (BA×Int)→Ps→Option Int×Ps
 | [],s=> (none,s)
 |(t,o)::l,s=>if isS t s then (some o,s.next)else firstP l s
def chainGo (el:M Ex) (ops:List (BA×Int)):Nat→Ex→Ps→Ex×Ps
 |0,e,s=> (e,s)
 |n+1,e,s=>
  match (firstP ops s).1 with
  |none=> (e,s)
  |some o=>chainGo el ops n (opE o [e,(el (firstP ops s).2).1]) (el (firstP ops s).2).2
def chainP (el:M Ex) (ops:List (BA×Int)):M Ex:=fun s=>chainGo el ops (s.r.length+1) (el s).1 (el s).2
def listGo {α:Type} (el:M α):Nat→List α→Ps→List α×Ps
 |0,out,s=> (out,s)
 |n+1,out,s=>if isS yCm s then listGo el n (out++ [(el s.next).1]) (el s.next).2 else (out,s)
def listP {α:Type} (el:M α):M (List α):=fun s=>listGo el (s.r.length+1) [(el s).1] (el s).2
def opsOr:List (BA×Int):= [(⟨#[79,82]⟩,19)]
def opsAnd:List (BA×Int):= [(⟨#[65,78,68]⟩,18)]
def opsSum:List (BA×Int):= [(⟨#[43]⟩,4),(⟨#[45]⟩,5)]
def opsPro:List (BA×Int):= [(⟨#[42]⟩,6),(⟨#[47]⟩,7),(⟨#[37]⟩,8)]
def opsCmp:List (BA×Int):= [(⟨#[61]⟩,10),(⟨#[60,62]⟩,11),(⟨#[60]⟩,12),(⟨#[60,61]⟩,13),(⟨#[62]⟩,14),(⟨#[62,61]⟩,15)]
def opsAgg:List (BA×Int):= [(⟨#[67,79,85,78,84]⟩,2),(⟨#[83,85,77]⟩,3),(⟨#[77,73,78]⟩,4),(⟨#[77,65,88]⟩,5)]
def colP:M Ex:=fun s=>
 if isS nq (takP 1 s).2 then (colE (takP 1 s).1 (takP 1 (takP 1 s).2.next).1,(takP 1 (takP 1 s).2.next).2)
 else (colE ⟨#[]⟩ (takP 1 s).1,(takP 1 s).2)
def fK (b:Bool) (e:Ex):Ex:=if b then opE 20 [e]else e
def optP (t:BA) (s:Ps):Ps:=if isS t s then s.next else s
section
variable (rec:M Ex)
def aG:M Ex:=fun s=>
 if hasK 3 s then (dF 1 (numP s).1 ⟨#[]⟩,(numP s).2)
 else if hasK 4 s then (dF 2 0 (takP 4 s).1,(takP 4 s).2)
 else if isS kNULL s then (dF 0 0 ⟨#[]⟩,s.next)
 else if isS iZ s then (opE 9 [(rec (needP yLp s.next)).1],needP yRp (rec (needP yLp s.next)).2)
 else if isS yLp s then ((rec s.next).1,needP yRp (rec s.next).2)
 else colP s
def unaP (prim:M Ex):M Ex:=fun s=>if isS dJ s then (opE 3 [(prim s.next).1],(prim s.next).2)else prim s
def nr (prim:M Ex):M Ex:=chainP (unaP prim) opsPro
def sumP (prim:M Ex):M Ex:=chainP (nr prim) opsSum
def inGo (sum:M Ex) (a:Ex):Nat→Ex→Ps→Ex×Ps
 |0,e,s=> (e,s)
 |n+1,e,s=>if isS yCm s then inGo sum a n (opE 19 [e,opE 10 [a,(sum s.next).1]]) (sum s.next).2 else (e,s)
def inP (sum:M Ex) (a:Ex):M Ex:=fun s=>inGo sum a (s.r.length+1) (opE 10 [a,(sum s).1]) (sum s).2
def tailP (sum:M Ex) (a:Ex):M Ex:=fun s=>
 match (firstP opsCmp s).1 with
 |some o=> (opE o [a,(sum (firstP opsCmp s).2).1],(sum (firstP opsCmp s).2).2)
 |none=>
  if isS kIS s then (fK (isS kNOT s.next) (opE 17 [a]),needP kNULL (optP kNOT s.next))
  else if isS oo (optP kNOT s)then (fK (isS kNOT s) (opE 16 [a,dF 2 0 (takP 4 (optP kNOT s).next).1]),(takP 4 (optP kNOT s).next).2)
  else if isS gB (optP kNOT s)then
   (fK (isS kNOT s) (opE 18 [opE 15 [a,(sum (optP kNOT s).next).1],opE 13 [a,(sum (needP kAND (sum (optP kNOT s).next).2)).1]]),(sum (needP kAND (sum (optP kNOT s).next).2)).2)
  else if isS kIN (optP kNOT s)then
   (fK (isS kNOT s) (inP sum a (needP yLp (optP kNOT s).next)).1,needP yRp (inP sum a (needP yLp (optP kNOT s).next)).2)
  else (a,if isS kNOT s then (optP kNOT s).fail else s)
def testP (prim:M Ex):M Ex:=fun s=>tailP (sumP prim) (sumP prim s).1 (sumP prim s).2
def notGo (prim:M Ex):Nat→Ps→Ex×Ps
 |0,s=>testP prim s
 |n+1,s=>if isS kNOT s then (opE 20 [(notGo prim n s.next).1],(notGo prim n s.next).2)else testP prim s
def notP (prim:M Ex):M Ex:=fun s=>notGo prim s.r.length s
def andP (prim:M Ex):M Ex:=chainP (notP prim) opsAnd
def orP (prim:M Ex):M Ex:=chainP (andP prim) opsOr
end
def exprP:Nat→M Ex
 |0=>fun s=> (colE ⟨#[]⟩ ⟨#[]⟩,s)
 |n+1=>orP (aG (exprP n))
def ay {α β:Type} (m:M α) (f:α→M β):M β:=fun s=>f (m s).1 (m s).2
def aH {α:Type} (a:α):M α:=fun s=> (a,s)
def aE (t:BA):M Unit:=fun s=> ((),needP t s)
def ifM {α:Type} (t:BA) (m n:M α):M α:=fun s=>if isS t s then m s.next else n s
def lp {α:Type} (ops:List (BA×Int)) (f:Int→M α) (m:M α):M α:=fun s=>
 match (firstP ops s).1 with
 |some o=>f o (firstP ops s).2
 |none=>m s
structure Df where
 cols:List Cd
 keys:List (List BA)
 frs:List Rf
 chk:List Ex
def namesP:M (List BA):=ay (aE yLp) fun _=>ay (listP (takP 1)) fun l=>ay (aE yRp) fun _=>aH l
def eK:M Int:=ifM dJ (ay numP fun n=>aH (-n)) numP
def pj:M (Int×Int×Int×Int):=ay eK fun a=>ay (aE yCm) fun _=>ay eK fun b=>ay (aE yRp) fun _=>aH (1,a,b,0)
def maxP:M (Int×Int×Int×Int):=ay numP fun n=>ay (aE yRp) fun _=>aH (2,0,0,n)
def typP:M (Int×Int×Int×Int):=
 ifM eJ (ifM yLp pj (aH (1,-2147483648,2147483647,0))) (ay (aE pi) fun _=>ifM yLp maxP (aH (2,0,0,16)))
def ek:M Cd:=ay (takP 1) fun a=>ay typP fun t=>ifM kNOT (ay (aE kNULL) fun _=>aH ⟨a,t.1,t.2.1,t.2.2.1,t.2.2.2,true⟩) (aH ⟨a,t.1,t.2.1,t.2.2.1,t.2.2.2,false⟩)
def refP:M Rf:=ay namesP fun a=>ay (aE kREFERENCES) fun _=>ay (takP 1) fun t=>ay namesP fun b=>aH ⟨a,t,b⟩
def stZ:St:=⟨0,⟨#[]⟩,[],[],[],[],[],[],[],[],exZ,[],[],0,⟨#[]⟩⟩
def nnC (l:List BA) (c:Cd):Cd:= { c with nn:=c.nn||l.contains c.nm }
def srcP:M Src:=ay (takP 1) fun t=>ifM kAS (ay (takP 1) fun a=>aH ⟨t,a⟩) (aH ⟨t,⟨#[]⟩⟩)
def dG (pos:M Int):M Ord':=ay pos fun n=>ifM kASC (aH ⟨n,false⟩) (ifM jJ (aH ⟨n,true⟩) (aH ⟨n,false⟩))
def fT:M (List Ex):=ifM iw (ay (aE kBY) fun _=>listP colP) (aH [])
def da (pos:M Int):M (List Ord'):=ifM iy (ay (aE kBY) fun _=>listP (dG pos)) (aH [])
def limP (pos:M Int):M Int:=ifM ln pos (aH 0)
def nmP (k:Int):M St:=ay (takP 1) fun a=>aH { stZ with kd:=k,nm:=a }
section
variable (ex:M Ex)
def elemP (d:Df) (l:List BA):M (Df×List BA):=
 ifM eI (ay (aE kKEY) fun _=>ay namesP fun k=>aH ({ d with keys:=d.keys++ [k] },l++k))
  (ifM fC (ay namesP fun k=>aH ({ d with keys:=d.keys++ [k] },l))
   (ifM iu (ay (aE yLp) fun _=>ay ex fun e=>ay (aE yRp) fun _=>aH ({ d with chk:=d.chk++ [e] },l))
    (ifM ea (ay (aE kKEY) fun _=>ay refP fun f=>aH ({ d with frs:=d.frs++ [f] },l))
     (ay ek fun c=>aH ({ d with cols:=d.cols++ [c] },l)))))
def cm:Nat→Df→List BA→M (Df×List BA)
 |0,d,l=>aH (d,l)
 |n+1,d,l=>ifM yCm (ay (elemP ex d l) fun x=>cm n x.1 x.2) (aH (d,l))
def bL:M (Df×List BA):=fun s=>ay (elemP ex ⟨[],[],[],[]⟩ []) (fun x=>cm ex (s.r.length+1) x.1 x.2) s
def createP:M St:=
 ay (aE kTABLE) fun _=>ay (takP 1) fun t=>ay (aE yLp) fun _=>ay (bL ex) fun x=>ay (aE yRp) fun _=>
  aH { stZ with kd:=1,tb:=t,cols:=x.1.cols.map (nnC x.2),keys:=x.1.keys,frs:=x.1.frs,chk:=x.1.chk }
def tupP:M (List Ex):=ay (aE yLp) fun _=>ay (listP ex) fun l=>ay (aE yRp) fun _=>aH l
def whrP:M Ex:=ifM eH ex (aH exZ)
def asgP:M Asg:=ay (takP 1) fun a=>ay (aE yEq) fun _=>ay ex fun e=>aH ⟨a,0,e⟩
def itm1 (o:Int):M Itm:=ay ex fun e=>ay (aE yRp) fun _=>aH ⟨o,e⟩
def cY:M Itm:=
 lp opsAgg (fun o=>ay (aE yLp) fun _=>if o=2 then ifM cZ (ay (aE yRp) fun _=>aH ⟨1,exZ⟩) (itm1 ex o)else itm1 ex o) (ay ex fun e=>aH ⟨0,e⟩)
def fromGo:Nat→List Src→List Ex→M (List Src×List Ex)
 |0,l,c=>aH (l,c)
 |n+1,l,c=>ifM yCm (ay srcP fun x=>fromGo n (l++ [x]) c) (ifM jx (ay srcP fun x=>ay (aE kON) fun _=>ay ex fun e=>fromGo n (l++ [x]) (c++ [e])) (aH (l,c)))
def fromP:M (List Src×List Ex):=fun s=>ay srcP (fun x=>fromGo ex (s.r.length+1) [x] []) s
def andL:List Ex→Ex
 | []=>exZ
 |e::l=>l.foldl (fun a b=>opE 18 [a,b]) e
def cr (conj:List Ex→Ex) (c:List Ex):M Ex:=ifM eH (ay ex fun e=>aH (conj (c++ [e]))) (aH (conj c))
def itmsP:M (List Itm):=ifM cZ (aH []) (listP (cY ex))
def queryP (pos:M Int) (conj:List Ex→Ex):M St:=
 ay (itmsP ex) fun i=>ay (aE kFROM) fun _=>ay (fromP ex) fun f=>ay (cr ex conj f.2) fun w=>ay fT fun g=>ay (da pos) fun o=>ay (limP pos) fun l=>
  aH { stZ with kd:=5,itms:=i,frm:=f.1,whr:=w,grp:=g,ord:=o,lim:=l }
def dz:M St:=ay (aE kINTO) fun _=>ay (takP 1) fun t=>ay (aE kVALUES) fun _=>ay (listP (tupP ex)) fun v=>aH { stZ with kd:=2,tb:=t,vals:=v }
def dA:M St:=ay (takP 1) fun t=>ay (aE kSET) fun _=>ay (listP (asgP ex)) fun v=>ay (whrP ex) fun w=>aH { stZ with kd:=3,tb:=t,sets:=v,whr:=w }
def dB:M St:=ay (aE kFROM) fun _=>ay (takP 1) fun t=>ay (whrP ex) fun w=>aH { stZ with kd:=4,tb:=t,whr:=w }
def dj (pos:M Int) (conj:List Ex→Ex) (last:M St):M St:=
 ifM cq (createP ex) (ifM cM (dz ex) (ifM dd (dA ex) (ifM dP (dB ex) (ifM dQ (queryP ex pos conj)
  (ifM gC (aH { stZ with kd:=6 }) (ifM fB (aH { stZ with kd:=7 }) (ifM dR (ifM kTO (nmP 10) (aH { stZ with kd:=8 })) (ifM ej (nmP 9) last))))))))
end
def fQ:M St:=ifM eG (nmP 11) (fun s=> (stZ,s.fail))
def endP (s:Ps):Ps:=if hasK 0 s then s else s.fail
def eM {α:Type} (m:M α) (l:List Tk):Nat ⊕ α:=
 if (endP (m ⟨l,false⟩).2).bad then .inl (endP (m ⟨l,false⟩).2).hd.pos else .inr (m ⟨l,false⟩).1
def stmP (n:Nat):M St:=dj (exprP n) posP andL fQ
end
section
open Lx (Tk)
def Rel {α:Type} (x y:α×Ps):Prop:=x=y∨(x.2=y.2∧x.2.bad=true)
def Sim {α:Type} (m n:M α):Prop:=∀s,Rel (m s) (n s)
def Stk {α:Type} (m:M α):Prop:=∀s,s.bad=true→(m s).2=s
theorem bad_isS {s:Ps} (h:s.bad=true) (t:BA):isS t s=false:=by simp[isS,h]
theorem mc {s:Ps} (h:s.bad=true) (k:Nat):hasK k s=false:=by simp[hasK,h]
theorem pk {s:Ps} (h:s.bad=true):s.fail=s:=by cases s;simp[Ps.fail]at*;exact h
theorem dk {s:Ps} (h:s.bad=true) (t:BA):needP t s=s:=by rw[needP,bad_isS h,if_neg (by simp),pk h]
theorem bad_opt {s:Ps} (h:s.bad=true) (t:BA):optP t s=s:=by rw[optP,bad_isS h,if_neg (by simp)]
theorem md {s:Ps} (h:s.bad=true) (k:Nat):takP k s=(⟨#[]⟩,s):=by unfold takP;rw[mc h,if_neg (by simp),pk h]
theorem bq (k:Nat):Stk (takP k):=fun s h=>by rw[md h]
theorem kz:Stk numP:=fun s h=>by unfold numP;rw[md h]
theorem i6:Stk posP:=fun s h=>by unfold posP;rw[mc h];simp[kz s h]
theorem kB (l:List (BA×Int)):∀s:Ps,s.bad=true→firstP l s=(none,s):=by
 induction l with
 |nil=>intro s _;rfl
 |cons a l ih=>intro s h;rw[firstP,bad_isS h,if_neg (by simp),ih s h]
theorem db (el:M Ex) (ops:List (BA×Int)):∀(n:Nat) (e:Ex) (s:Ps),s.bad=true→chainGo el ops n e s=(e,s)
 |0,_,_,_=>rfl
 |n+1,e,s,h=>by rw[chainGo,kB ops s h]
theorem gh {el:M Ex} (h:Stk el) (ops:List (BA×Int)):Stk (chainP el ops):=fun s hb=>by
 unfold chainP
 rw[h s hb,db el ops _ _ _ hb]
theorem dK {α:Type} (el:M α):∀(n:Nat) (o:List α) (s:Ps),s.bad=true→listGo el n o s=(o,s)
 |0,_,_,_=>rfl
 |n+1,o,s,h=>by rw[listGo,bad_isS h,if_neg (by simp)]
theorem aF {α:Type} {el:M α} (h:Stk el):Stk (listP el):=fun s hb=>by
 unfold listP
 rw[h s hb,dK el _ _ _ hb]
theorem i7:Stk colP:=fun s h=>by
 unfold colP
 rw[md h,bad_isS h,if_neg (by simp)]
theorem sG {p:M Ex} (h:Stk p):Stk (unaP p):=fun s hb=>by
 unfold unaP
 rw[bad_isS hb,if_neg (by simp),h s hb]
theorem sH {p:M Ex} (h:Stk p):Stk (nr p):=gh (sG h) _
theorem kC {p:M Ex} (h:Stk p):Stk (sumP p):=gh (sH h) _
theorem iG (e:M Ex) (a:Ex):Stk (tailP e a):=fun s hb=>by
 unfold tailP
 rw[kB _ s hb,bad_isS hb,bad_opt hb]
 simp only[bad_isS hb]
 simp
theorem ut {p:M Ex} (h:Stk p):Stk (testP p):=fun s hb=>by
 unfold testP
 rw[kC h s hb,iG _ _ s hb]
theorem stk_notGo {p:M Ex} (h:Stk p):∀n,Stk (notGo p n)
 |0=>ut h
 |n+1=>fun s hb=>by
  rw[notGo,bad_isS hb,if_neg (by simp)]
  exact ut h s hb
theorem me {p:M Ex} (h:Stk p):Stk (notP p):=fun s hb=>stk_notGo h _ s hb
theorem stk_or {p:M Ex} (h:Stk p):Stk (orP p):=gh (gh (me h) _) _
theorem fE (rec:M Ex):Stk (aG rec):=fun s hb=>by
 unfold aG
 simp only[mc hb,bad_isS hb]
 simpa using i7 s hb
theorem gD:∀n,Stk (exprP n)
 |0=>fun _ _=>rfl
 |n+1=>stk_or (fE _)
theorem gE (c:M Ex) (x:Ex) (n:Nat) (e:Ex) {s:Ps} (h:s.bad=true):inGo c x n e s=(e,s):=by
 cases n with
 |zero=>rfl
 |succ n=>rw[inGo,bad_isS h,if_neg (by simp)]
theorem ab {α β:Type} {m:M α} {f:α→M β} (h:Stk m) (hf:∀a,Stk (f a)):Stk (ay m f):=fun s hb=>by
 unfold ay
 rw[h s hb]
 exact hf _ s hb
theorem ae {α:Type} (a:α):Stk (aH a):=fun s _=>rfl
theorem ak (t:BA):Stk (aE t):=fun s hb=>dk hb t
theorem aU {α:Type} (t:BA) (m:M α) {n:M α} (h:Stk n):Stk (ifM t m n):=fun s hb=>by
 unfold ifM
 rw[bad_isS hb,if_neg (by simp)]
 exact h s hb
theorem stk_fst {α:Type} (ops:List (BA×Int)) (f:Int→M α) {m:M α} (h:Stk m):Stk (lp ops f m):=fun s hb=>by
 unfold lp
 rw[kB ops s hb]
 exact h s hb
theorem gi:Stk namesP:=ab (ak _) fun _=>ab (aF (bq 1)) fun _=>ab (ak _) fun _=>ae _
theorem uu:Stk eK:=aU _ _ kz
theorem stk_typ:Stk typP:=aU _ _ (ab (ak _) fun _=>aU _ _ (ae _))
theorem stk_def:Stk ek:=ab (bq 1) fun _=>ab stk_typ fun _=>aU _ _ (ae _)
theorem stk_ref:Stk refP:=ab gi fun _=>ab (ak _) fun _=>ab (bq 1) fun _=>ab gi fun _=>ae _
theorem stk_src:Stk srcP:=ab (bq 1) fun _=>aU _ _ (ae _)
theorem i8 {p:M Int} (h:Stk p):Stk (dG p):=ab h fun _=>aU _ _ (aU _ _ (ae _))
theorem fD:Stk fT:=aU _ _ (ae _)
theorem ce (p:M Int):Stk (da p):=aU _ _ (ae _)
theorem bG (p:M Int):Stk (limP p):=aU _ _ (ae _)
theorem stk_elem (ex:M Ex) (d:Df) (l:List BA):Stk (elemP ex d l):=aU _ _ (aU _ _ (aU _ _ (aU _ _ (ab stk_def fun _=>ae _))))
theorem en (ex:M Ex):∀(n:Nat) (d:Df) (l:List BA),Stk (cm ex n d l)
 |0,_,_=>ae _
 |_+1,_,_=>aU _ _ (ae _)
theorem cn (ex:M Ex):Stk (bL ex):=fun s hb=>ab (stk_elem ex _ _) (fun x=>en ex (s.r.length+1) x.1 x.2) s hb
theorem ja {ex:M Ex} (h:Stk ex):Stk (tupP ex):=ab (ak _) fun _=>ab (aF h) fun _=>ab (ak _) fun _=>ae _
theorem bO (ex:M Ex):Stk (whrP ex):=aU _ _ (ae _)
theorem eO {ex:M Ex} (h:Stk ex):Stk (asgP ex):=ab (bq 1) fun _=>ab (ak _) fun _=>ab h fun _=>ae _
theorem iH {ex:M Ex} (h:Stk ex) (o:Int):Stk (itm1 ex o):=ab h fun _=>ab (ak _) fun _=>ae _
theorem stk_itm {ex:M Ex} (h:Stk ex):Stk (cY ex):=stk_fst _ _ (ab h fun _=>ae _)
theorem aV (ex:M Ex):∀(n:Nat) (l:List Src) (c:List Ex),Stk (fromGo ex n l c)
 |0,_,_=>ae _
 |_+1,_,_=>aU _ _ (aU _ _ (ae _))
theorem eP (ex:M Ex):Stk (fromP ex):=fun s hb=>ab stk_src (fun x=>aV ex (s.r.length+1) [x] []) s hb
theorem jK (ex:M Ex) (k:List Ex→Ex) (c:List Ex):Stk (cr ex k c):=aU _ _ (ae _)
section
variable {a b:M Ex} (h:Sim a b) (ha:Stk a) (hb:Stk b)
include h ha hb
end
end
section
open Lx (Tk)
def Fwd {α:Type} (m:M α):Prop:=∀s,(m s).2.r.length≤s.r.length
theorem next_len (s:Ps):s.next.r.length≤s.r.length:=by simp[Ps.next]
theorem dL {t:BA} {s:Ps} (h:isS t s=true):s.bad=false∧∃a l,s.r=a::l∧(a.kind=2∨a.kind=5)∧tkB a=t∧s.next=⟨l,false⟩:=by
 obtain⟨r,b⟩:=s
 cases r with
 |nil=>simp[isS,Ps.hd]at h
 |cons a l=>
  simp only[isS,Ps.hd,headD_cons,Bool.and_eq_true,Bool.not_eq_true',Bool.or_eq_true,beq_iff_eq,decide_eq_true_eq]at h
  exact⟨h.1,a,l,rfl,h.2.1,of_decide_eq_true h.2.2,by simp[Ps.next,h.1]⟩
theorem au {t:BA} {s:Ps} (h:isS t s=true):s.next.r.length+1=s.r.length:=by
 obtain⟨_,a,l,e,_,_,g⟩:=dL h
 rw[e,g]
 simp
theorem kD {k:Nat} (e:k≠0) {s:Ps} (h:hasK k s=true):s.bad=false∧∃a l,s.r=a::l∧a.kind=k∧s.next=⟨l,false⟩:=by
 obtain⟨r,b⟩:=s
 cases r with
 |nil=>simp[hasK,Ps.hd]at h;omega
 |cons a l=>
  simp only[hasK,Ps.hd,headD_cons,Bool.and_eq_true,Bool.not_eq_true',beq_iff_eq]at h
  exact⟨h.1,a,l,rfl,h.2,by simp[Ps.next,h.1]⟩
theorem fwd_tak (k:Nat):Fwd (takP k):=fun s=>by
 unfold takP
 split
 ·exact next_len s
 ·exact Nat.le_refl _
theorem aA (t:BA) (s:Ps):(needP t s).r.length≤s.r.length:=by
 unfold needP
 split
 ·exact next_len s
 ·exact Nat.le_refl _
theorem opt_len (t:BA) (s:Ps):(optP t s).r.length≤s.r.length:=by
 unfold optP
 split
 ·exact next_len s
 ·exact Nat.le_refl _
theorem ig:Fwd numP:=fun s=>fwd_tak 3 s
theorem fwd_pos:Fwd posP:=fun s=>by
 unfold posP
 split
 ·exact ig s.fail
 ·exact ig s
theorem gj (l:List (BA×Int)):∀s:Ps,(firstP l s).2.r.length≤s.r.length∧((firstP l s).1.isSome=true→(firstP l s).2.r.length+1=s.r.length):=by
 induction l with
 |nil=>intro s;exact⟨Nat.le_refl _,fun h=>by simp[firstP]at h⟩
 |cons a l ih=>
  intro s
  rw[firstP]
  split
  ·next h=>exact⟨next_len s,fun _=>au h⟩
  ·exact ih s
theorem lq {l:List (BA×Int)} {s:Ps} {o:Int} (h:(firstP l s).1=some o):(firstP l s).2.r.length+1=s.r.length:=(gj l s).2 (by rw[h];rfl)
theorem lu:∀(l:List (BA×Int)) (s:Ps),(firstP l s).1=none→(firstP l s).2=s
 | [],_,_=>rfl
 |(t,o)::l,s,h=>by
  rw[firstP]at h ⊢
  split at h
  ·cases h
  ·next h2=>rw[if_neg h2];exact lu l s h
theorem oq {el:M Ex} (h:Fwd el) (ops:List (BA×Int)):∀(n:Nat) (e:Ex),Fwd (chainGo el ops n e)
 |0,_=>fun _=>Nat.le_refl _
 |n+1,e=>fun s=>by
  rw[chainGo]
  split
  ·exact Nat.le_refl _
  ·exact Nat.le_trans (oq h ops n _ _) (Nat.le_trans (h _) (gj ops s).1)
theorem ey {el:M Ex} (h:Fwd el) (ops:List (BA×Int)):Fwd (chainP el ops):=fun s=>Nat.le_trans (oq h ops _ _ _) (h s)
theorem pm {α:Type} {el:M α} (h:Fwd el):∀(n:Nat) (o:List α),Fwd (listGo el n o)
 |0,_=>fun _=>Nat.le_refl _
 |n+1,o=>fun s=>by
  rw[listGo]
  split
  ·exact Nat.le_trans (pm h n _ _) (Nat.le_trans (h _) (next_len s))
  ·exact Nat.le_refl _
theorem fwd_list {α:Type} {el:M α} (h:Fwd el):Fwd (listP el):=fun s=>Nat.le_trans (pm h _ _ _) (h s)
theorem az {α β:Type} {m:M α} {f:α→M β} (h:Fwd m) (hf:∀a,Fwd (f a)):Fwd (ay m f):=fun s=>Nat.le_trans (hf _ _) (h s)
theorem aK {α:Type} (a:α):Fwd (aH a):=fun _=>Nat.le_refl _
theorem aP (t:BA):Fwd (aE t):=fun s=>aA t s
theorem de {α:Type} (t:BA) {m n:M α} (e:Fwd m) (g:Fwd n):Fwd (ifM t m n):=fun s=>by
 unfold ifM
 split
 ·exact Nat.le_trans (e _) (next_len s)
 ·exact g s
theorem sI {α:Type} (ops:List (BA×Int)) {f:Int→M α} {m:M α} (e:∀o,Fwd (f o)) (g:Fwd m):Fwd (lp ops f m):=fun s=>by
 unfold lp
 split
 ·exact Nat.le_trans (e _ _) (gj ops s).1
 ·exact g s
theorem fwd_col:Fwd colP:=fun s=>by
 unfold colP
 split
 ·exact Nat.le_trans (fwd_tak 1 _) (Nat.le_trans (next_len _) (fwd_tak 1 s))
 ·exact fwd_tak 1 s
theorem fU {p:M Ex} (h:Fwd p):Fwd (unaP p):=fun s=>by
 unfold unaP
 split
 ·exact Nat.le_trans (h _) (next_len s)
 ·exact h s
theorem ii {p:M Ex} (h:Fwd p):Fwd (sumP p):=ey (ey (fU h) _) _
theorem uv {p:M Ex} (h:Fwd p) (a:Ex):∀(n:Nat) (e:Ex),Fwd (inGo p a n e)
 |0,_=>fun _=>Nat.le_refl _
 |n+1,e=>fun s=>by
  rw[inGo]
  split
  ·exact Nat.le_trans (uv h a n _ _) (Nat.le_trans (h _) (next_len s))
  ·exact Nat.le_refl _
theorem fwd_tail {p:M Ex} (h:Fwd p) (a:Ex):Fwd (tailP p a):=fun s=>by
 have k:(optP kNOT s).next.r.length≤s.r.length:=Nat.le_trans (next_len _) (opt_len _ _)
 unfold tailP
 split
 ·exact Nat.le_trans (h _) (gj _ s).1
 split
 ·exact Nat.le_trans (aA _ _) (Nat.le_trans (opt_len _ _) (next_len s))
 split
 ·exact Nat.le_trans (fwd_tak 4 _) k
 split
 ·exact Nat.le_trans (h _) (Nat.le_trans (aA _ _) (Nat.le_trans (h _) k))
 split
 ·exact Nat.le_trans (aA _ _) (Nat.le_trans (uv h _ _ _ _) (Nat.le_trans (h _) (Nat.le_trans (aA _ _) k)))
 ·simp only
  split
  ·exact opt_len _ _
  ·exact Nat.le_refl _
theorem pn {p:M Ex} (h:Fwd p):Fwd (testP p):=fun s=>Nat.le_trans (fwd_tail (ii h) _ _) (ii h s)
theorem iI {p:M Ex} (h:Fwd p):∀n,Fwd (notGo p n)
 |0=>pn h
 |n+1=>fun s=>by
  rw[notGo]
  split
  ·exact Nat.le_trans (iI h n _) (next_len s)
  ·exact pn h s
theorem mf {p:M Ex} (h:Fwd p):Fwd (andP p):=ey (fun s=>iI h _ s) _
theorem fwd_or {p:M Ex} (h:Fwd p):Fwd (orP p):=ey (mf h) _
theorem iJ {p:M Ex} (h:Fwd p):Fwd (aG p):=fun s=>by
 unfold aG
 split
 ·exact ig s
 split
 ·exact fwd_tak 4 s
 split
 ·exact next_len s
 split
 ·exact Nat.le_trans (aA _ _) (Nat.le_trans (h _) (Nat.le_trans (aA _ _) (next_len s)))
 split
 ·exact Nat.le_trans (aA _ _) (Nat.le_trans (h _) (next_len s))
 ·exact fwd_col s
theorem ec:∀n,Fwd (exprP n)
 |0=>fun _=>Nat.le_refl _
 |n+1=>fwd_or (iJ (ec n))
def Nz (m:M Ex):Prop:=∀s,(m s).1.d.op≠0
theorem co:∀(l:List (BA×Int)) (s:Ps) (o:Int),(firstP l s).1=some o→∃t,(t,o)∈l
 | [],_,_,h=>by simp[firstP]at h
 |(t,k)::l,s,o,h=>by
  rw[firstP]at h
  split at h
  ·simp at h;subst h;exact⟨t,mem_cons_self ..⟩
  ·obtain⟨u,e⟩:=co l s o h
   exact⟨u,mem_cons_of_mem _ e⟩
theorem po (el:M Ex) {ops:List (BA×Int)} (g:∀x∈ops,x.2≠0):∀(n:Nat) (e:Ex),e.d.op≠0→Nz (chainGo el ops n e)
 |0,_,h=>fun _=>h
 |n+1,e,h=>fun s=>by
  rw[chainGo]
  split
  ·exact h
  ·next o ho'=>
   obtain⟨t,i⟩:=co _ _ _ ho'
   exact po el g n (opE o _) (show o≠0 from g _ i) _
theorem mg {el:M Ex} (h:Nz el) {ops:List (BA×Int)} (e:∀x∈ops,x.2≠0):Nz (chainP el ops):=fun s=>po el e _ _ (h s) _
theorem nz_una {p:M Ex} (h:Nz p):Nz (unaP p):=fun s=>by
 unfold unaP
 split
 ·simp[opE,Ex.d]
 ·exact h s
theorem nz_sum {p:M Ex} (h:Nz p):Nz (sumP p):=mg (mg (nz_una h) (by decide)) (by decide)
theorem nz_inGo (p:M Ex) (a:Ex):∀(n:Nat) (e:Ex),e.d.op≠0→Nz (inGo p a n e)
 |0,_,h=>fun _=>h
 |n+1,e,h=>fun s=>by
  rw[inGo]
  split
  ·exact nz_inGo p a n _ (by simp[opE,Ex.d]) _
  ·exact h
theorem sJ (b:Bool) {e:Ex} (h:e.d.op≠0):(fK b e).d.op≠0:=by
 cases b
 ·exact h
 ·simp[fK,opE,Ex.d]
theorem nz_test {p:M Ex} (h:Nz p):Nz (testP p):=fun s=>by
 unfold testP tailP
 split
 ·next o ho=>
  obtain⟨t,e⟩:=co _ _ _ ho
  have k:∀x∈opsCmp,x.2≠0:=by decide
  exact k _ e
 split
 ·exact sJ _ (by simp[opE,Ex.d])
 split
 ·exact sJ _ (by simp[opE,Ex.d])
 split
 ·exact sJ _ (by simp[opE,Ex.d])
 split
 ·exact sJ _ (nz_inGo _ _ _ _ (by simp[opE,Ex.d]) _)
 ·exact nz_sum h s
theorem nz_notGo {p:M Ex} (h:Nz p):∀n,Nz (notGo p n)
 |0=>nz_test h
 |n+1=>fun s=>by
  rw[notGo]
  split
  ·simp[opE,Ex.d]
  ·exact nz_test h s
theorem nz_or {p:M Ex} (h:Nz p):Nz (orP p):=mg (mg (fun s=>nz_notGo h _ s) (by decide)) (by decide)
theorem nz_col:Nz colP:=fun s=>by
 unfold colP
 split<;>simp[colE,Ex.d]
theorem oS {ex:M Ex} (h:Nz ex):∀(n:Nat) (l:List Src) (c:List Ex) (s:Ps),(∀e∈c,e.d.op≠0)→∀e∈(fromGo ex n l c s).1.2,e.d.op≠0
 |0,l,c,s,hc=>hc
 |n+1,l,c,s,hc=>by
  unfold fromGo ifM
  split
  ·exact oS h n _ _ _ hc
  split
  ·refine oS h n _ _ _ fun e g=>?_
   rcases List.mem_append.1 g with g|g
   ·exact hc e g
   ·rw[List.mem_singleton.1 g];exact h _
  ·exact hc
section
variable {a b:M Ex} (h:Sim a b) (ha:Stk a) (hb:Stk b) (hz:Nz b)
include h ha hb hz
end
def jL (stm:M St) (vld:St→Int):Nat→List St→Ps→(Nat×Int) ⊕ List St
 |0,out,_=> .inr out
 |n+1,out,s=>
  if s.hd.kind=0 then .inr out
  else if (needP jy (stm s).2).bad=true then .inl ((needP jy (stm s).2).hd.pos,2)
  else if vld (stm s).1≠0 then .inl (s.hd.pos,vld (stm s).1)
  else jL stm vld n (out++ [(stm s).1]) (needP jy (stm s).2)
end
section
open Lx (Tk)
structure Kp (f:Tk→Tk):Prop where
 kd:∀a,(f a).kind=a.kind
 tx:∀a,(f a).text=a.text
def Ps.mp (f:Tk→Tk) (s:Ps):Ps:=⟨s.r.map f,s.bad⟩
def Sfx (s t:Ps):Prop:=∃A,s.r=A++t.r∧∀a∈A,a.kind≠0
theorem Sfx.refl (s:Ps):Sfx s s:=⟨[],rfl,by simp⟩
theorem Sfx.trans {a b c:Ps} (h:Sfx a b) (k:Sfx b c):Sfx a c:=by
 obtain⟨A,e,g⟩:=h
 obtain⟨B,i,j⟩:=k
 exact⟨A++B,by rw[e,i,append_assoc],fun a ha=> (List.mem_append.1 ha).elim (g a) (j a)⟩
theorem Sfx.next {t:BA} {s:Ps} (h:isS t s=true):Sfx s s.next:=by
 obtain⟨_,a,l,e,i,_,g⟩:=dL h
 exact⟨[a],by rw[e,g];rfl,fun b hb=>by rw[List.mem_singleton.1 hb];omega⟩
theorem Sfx.nextk {k:Nat} (i:k≠0) {s:Ps} (h:hasK k s=true):Sfx s s.next:=by
 obtain⟨_,a,l,e,j,g⟩:=kD i h
 exact⟨[a],by rw[e,g];rfl,fun b hb=>by rw[List.mem_singleton.1 hb];omega⟩
theorem Sfx.fail (s:Ps):Sfx s s.fail:=Sfx.refl s
theorem sfx_need (t:BA) (s:Ps):Sfx s (needP t s):=by
 unfold needP
 split
 ·next h=>exact Sfx.next h
 ·exact Sfx.fail s
theorem sfx_opt (t:BA) (s:Ps):Sfx s (optP t s):=by
 unfold optP
 split
 ·next h=>exact Sfx.next h
 ·exact Sfx.refl s
section
variable {f:Tk→Tk} (hf:Kp f)
include hf
theorem gF (t:BA) (s:Ps):isS t (s.mp f)=isS t s:=by
 unfold isS Ps.mp Ps.hd tkB
 cases s.r with
 |nil=>rfl
 |cons a l=>simp[hf.kd,hf.tx]
theorem sK (k:Nat) (s:Ps):hasK k (s.mp f)=hasK k s:=by
 unfold hasK Ps.mp Ps.hd
 cases s.r with
 |nil=>rfl
 |cons a l=>simp[hf.kd]
theorem mp_hd (s:Ps):tkB (s.mp f).hd=tkB s.hd:=by
 unfold Ps.mp Ps.hd tkB
 cases s.r with
 |nil=>rfl
 |cons a l=>simp[hf.tx]
omit hf in
theorem ed (s:Ps):(s.mp f).next=s.next.mp f:=by simp[Ps.mp,Ps.next]
omit hf in
theorem mp_fail (s:Ps):(s.mp f).fail=s.fail.mp f:=rfl
omit hf in
theorem nt (s:Ps):(s.mp f).r.length=s.r.length:=by simp[Ps.mp]
theorem mp_need (t:BA) (s:Ps):needP t (s.mp f)=(needP t s).mp f:=by
 unfold needP
 rw[gF hf]
 split
 ·exact ed s
 ·rfl
theorem mp_opt (t:BA) (s:Ps):optP t (s.mp f)=(optP t s).mp f:=by
 unfold optP
 rw[gF hf]
 split
 ·exact ed s
 ·rfl
theorem mh:∀(l:List (BA×Int)) (s:Ps),firstP l (s.mp f)=((firstP l s).1,(firstP l s).2.mp f)
 | [],_=>rfl
 |(t,o)::l,s=>by
  rw[firstP,firstP,gF hf]
  split
  ·rw[ed]
  ·exact mh l s
end
theorem kE:∀(l:List (BA×Int)) (s:Ps),Sfx s (firstP l s).2
 | [],s=>Sfx.refl s
 |(t,o)::l,s=>by
  rw[firstP]
  split
  ·next h=>exact Sfx.next h
  ·exact kE l s
structure Rdy {α:Type} (m:M α):Prop where
 sfx:∀s,Sfx s (m s).2
 mp:∀ {f:Tk→Tk},Kp f→∀s:Ps,m (s.mp f)=((m s).1,(m s).2.mp f)
theorem rdy_tak {k:Nat} (e:k≠0):Rdy (takP k):=⟨fun s=>by
 unfold takP
 split
 ·next h=>exact Sfx.nextk e h
 ·exact Sfx.fail s,fun hf s=>by
 unfold takP
 rw[sK hf,mp_hd hf,ed,mp_fail]
 split<;>rfl⟩
theorem rdy_num:Rdy numP:=⟨fun s=> (rdy_tak (by omega)).sfx s,fun hf s=>by unfold numP;rw[(rdy_tak (by omega)).mp hf]⟩
theorem kF:Rdy posP:=⟨fun s=>by
 unfold posP
 split
 ·exact rdy_num.sfx s.fail
 ·exact rdy_num.sfx s,fun hf s=>by
 unfold posP
 rw[sK hf,mp_hd hf]
 split
 ·exact rdy_num.mp hf s.fail
 ·exact rdy_num.mp hf s⟩
theorem ij {el:M Ex} (h:Rdy el) (ops:List (BA×Int)):∀(n:Nat) (e:Ex),Rdy (chainGo el ops n e)
 |0,_=>⟨fun s=>Sfx.refl s,fun _ _=>rfl⟩
 |n+1,e=>⟨fun s=>by
  rw[chainGo]
  split
  ·exact Sfx.refl s
  ·exact(kE ops s).trans ((h.sfx _).trans ((ij h ops n _).sfx _)),fun hf s=>by
  rw[chainGo,chainGo,mh hf]
  cases (firstP ops s).1 with
  |none=>rfl
  |some o=>
   simp only
   rw[h.mp hf]
   exact(ij h ops n _).mp hf _⟩
theorem fk {el:M Ex} (h:Rdy el) (ops:List (BA×Int)):Rdy (chainP el ops):=⟨fun s=> (h.sfx s).trans ((ij h ops _ _).sfx _),fun hf s=>by
 unfold chainP
 rw[nt,h.mp hf]
 exact(ij h ops _ _).mp hf _⟩
theorem rdy_listGo {α:Type} {el:M α} (h:Rdy el):∀(n:Nat) (o:List α),Rdy (listGo el n o)
 |0,_=>⟨fun s=>Sfx.refl s,fun _ _=>rfl⟩
 |n+1,o=>⟨fun s=>by
  rw[listGo]
  split
  ·next hc=>exact(Sfx.next hc).trans ((h.sfx _).trans ((rdy_listGo h n _).sfx _))
  ·exact Sfx.refl s,fun hf s=>by
  rw[listGo,listGo,gF hf]
  split
  ·rw[ed,h.mp hf]
   exact(rdy_listGo h n _).mp hf _
  ·rfl⟩
theorem bB {α:Type} {el:M α} (h:Rdy el):Rdy (listP el):=⟨fun s=> (h.sfx s).trans ((rdy_listGo h _ _).sfx _),fun hf s=>by
 unfold listP
 rw[nt,h.mp hf]
 exact(rdy_listGo h _ _).mp hf _⟩
theorem ah {α β:Type} {m:M α} {f:α→M β} (h:Rdy m) (k:∀a,Rdy (f a)):Rdy (ay m f):=⟨fun s=> (h.sfx s).trans ((k _).sfx _),fun hf s=>by
 unfold ay
 rw[h.mp hf]
 exact(k _).mp hf _⟩
theorem aj {α:Type} (a:α):Rdy (aH a):=⟨fun s=>Sfx.refl s,fun _ _=>rfl⟩
theorem ar (t:BA):Rdy (aE t):=⟨fun s=>sfx_need t s,fun hf s=>by unfold aE;rw[mp_need hf]⟩
theorem aY {α:Type} (t:BA) {m n:M α} (e:Rdy m) (g:Rdy n):Rdy (ifM t m n):=⟨fun s=>by
 unfold ifM
 split
 ·next hc=>exact(Sfx.next hc).trans (e.sfx _)
 ·exact g.sfx s,fun hf s=>by
 unfold ifM
 rw[gF hf]
 split
 ·rw[ed];exact e.mp hf _
 ·exact g.mp hf _⟩
theorem rdy_fst {α:Type} (ops:List (BA×Int)) {f:Int→M α} {m:M α} (e:∀o,Rdy (f o)) (g:Rdy m):Rdy (lp ops f m):=⟨fun s=>by
 unfold lp
 split
 ·exact(kE ops s).trans ((e _).sfx _)
 ·exact g.sfx s,fun hf s=>by
 unfold lp
 rw[mh hf]
 cases (firstP ops s).1 with
 |none=>exact g.mp hf _
 |some o=>exact(e o).mp hf _⟩
theorem rdy_col:Rdy colP:=⟨fun s=>by
 have e:=(rdy_tak (k:=1) (by omega)).sfx
 unfold colP
 split
 ·next hc=>exact(e s).trans ((Sfx.next hc).trans (e _))
 ·exact e s,fun hf s=>by
 have e:=fun s=> (rdy_tak (k:=1) (by omega)).mp hf s
 unfold colP
 rw[e,gF hf]
 split
 ·rw[ed,e]
 ·rfl⟩
section
variable {p:M Ex} (h:Rdy p)
include h
theorem sL:Rdy (unaP p):=⟨fun s=>by
 unfold unaP
 split
 ·next hc=>exact(Sfx.next hc).trans (h.sfx _)
 ·exact h.sfx s,fun hf s=>by
 unfold unaP
 rw[gF hf]
 split
 ·rw[ed,h.mp hf]
 ·exact h.mp hf s⟩
theorem kG:Rdy (sumP p):=fk (fk (sL h) _) _
theorem rdy_inGo (a:Ex):∀(n:Nat) (e:Ex),Rdy (inGo p a n e)
 |0,_=>⟨fun s=>Sfx.refl s,fun _ _=>rfl⟩
 |n+1,e=>⟨fun s=>by
  rw[inGo]
  split
  ·next hc=>exact(Sfx.next hc).trans ((h.sfx _).trans ((rdy_inGo a n _).sfx _))
  ·exact Sfx.refl s,fun hf s=>by
  rw[inGo,inGo,gF hf]
  split
  ·rw[ed,h.mp hf]
   exact(rdy_inGo a n _).mp hf _
  ·rfl⟩
theorem rdy_in (a:Ex):Rdy (inP p a):=⟨fun s=> (h.sfx s).trans ((rdy_inGo h a _ _).sfx _),fun hf s=>by
 unfold inP
 rw[nt,h.mp hf]
 exact(rdy_inGo h a _ _).mp hf _⟩
theorem uw (a:Ex):Rdy (tailP p a):=⟨fun s=>by
 unfold tailP
 split
 ·exact(kE _ s).trans (h.sfx _)
 split
 ·next hc=>exact(Sfx.next hc).trans ((sfx_opt _ _).trans (sfx_need _ _))
 split
 ·next hc=>exact(sfx_opt _ _).trans ((Sfx.next hc).trans ((rdy_tak (by omega)).sfx _))
 split
 ·next hc=>exact(sfx_opt _ _).trans ((Sfx.next hc).trans ((h.sfx _).trans ((sfx_need _ _).trans (h.sfx _))))
 split
 ·next hc=>exact(sfx_opt _ _).trans ((Sfx.next hc).trans ((sfx_need _ _).trans (((rdy_in h a).sfx _).trans (sfx_need _ _))))
 ·simp only
  split
  ·exact(sfx_opt _ _).trans (Sfx.fail _)
  ·exact Sfx.refl s,fun hf s=>by
 unfold tailP
 rw[mh hf]
 cases (firstP opsCmp s).1 with
 |some o=>simp only;rw[h.mp hf]
 |none=>
  have e:=fun s=> (rdy_tak (k:=4) (by omega)).mp hf s
  simp only[gF hf,mp_opt hf,ed,mp_need hf,h.mp hf,e,(rdy_in h a).mp hf,mp_fail]
  split
  ·rfl
  split
  ·rfl
  split
  ·rfl
  split
  ·rfl
  split<;>rfl⟩
theorem mi:Rdy (testP p):=⟨fun s=> ((kG h).sfx s).trans ((uw (kG h) _).sfx _),fun hf s=>by
 unfold testP
 rw[(kG h).mp hf]
 exact(uw (kG h) _).mp hf _⟩
theorem rdy_notGo:∀n,Rdy (notGo p n)
 |0=>mi h
 |n+1=>⟨fun s=>by
  rw[notGo]
  split
  ·next hc=>exact(Sfx.next hc).trans ((rdy_notGo n).sfx _)
  ·exact(mi h).sfx s,fun hf s=>by
  rw[notGo,notGo,gF hf]
  split
  ·rw[ed,(rdy_notGo n).mp hf]
  ·exact(mi h).mp hf s⟩
theorem mj:Rdy (notP p):=⟨fun s=> (rdy_notGo h _).sfx s,fun hf s=>by
 unfold notP
 rw[nt]
 exact(rdy_notGo h _).mp hf s⟩
theorem rdy_or:Rdy (orP p):=fk (fk (mj h) _) _
theorem iK:Rdy (aG p):=⟨fun s=>by
 unfold aG
 split
 ·exact rdy_num.sfx s
 split
 ·exact(rdy_tak (by omega)).sfx s
 split
 ·next hc=>exact Sfx.next hc
 split
 ·next hc=>exact(Sfx.next hc).trans ((sfx_need _ _).trans ((h.sfx _).trans (sfx_need _ _)))
 split
 ·next hc=>exact(Sfx.next hc).trans ((h.sfx _).trans (sfx_need _ _))
 ·exact rdy_col.sfx s,fun hf s=>by
 have e:=fun s=> (rdy_tak (k:=4) (by omega)).mp hf s
 unfold aG
 simp only[gF hf,sK hf,ed,mp_need hf,h.mp hf,e,rdy_num.mp hf,rdy_col.mp hf]
 split
 ·rfl
 split
 ·rfl
 split
 ·rfl
 split
 ·rfl
 split<;>rfl⟩
end
theorem cR:∀n,Rdy (exprP n)
 |0=>⟨fun s=>Sfx.refl s,fun _ _=>rfl⟩
 |n+1=>rdy_or (iK (cR n))
theorem pp {ex:M Ex} (h:Rdy ex) (d:Df) (l:List BA):Rdy (elemP ex d l):=by
 unfold elemP namesP refP ek namesP typP pj maxP eK
 repeat' first
  |exact h
  |exact rdy_tak (by omega)
  |exact rdy_num
  |exact aj _
  |exact ar _
  |apply bB
  |apply aY
  |apply ah
  |intro _
theorem fm {ex:M Ex} (h:Rdy ex):∀(n:Nat) (d:Df) (l:List BA),Rdy (cm ex n d l)
 |0,_,_=>aj _
 |n+1,d,l=>aY _ (ah (pp h d l) fun x=>fm h n x.1 x.2) (aj _)
theorem nu {ex:M Ex} (h:Rdy ex):Rdy (bL ex):=⟨fun s=> (ah (pp h ⟨[],[],[],[]⟩ []) fun x=>fm h (s.r.length+1) x.1 x.2).sfx s,fun hf s=>by
 unfold bL
 rw[nt]
 exact(ah (pp h ⟨[],[],[],[]⟩ []) fun x=>fm h (s.r.length+1) x.1 x.2).mp hf s⟩
theorem oT:Rdy srcP:=by
 unfold srcP
 repeat' first
  |exact rdy_tak (by omega)
  |exact aj _
  |apply aY
  |apply ah
  |intro _
theorem jc {ex:M Ex} (h:Rdy ex):∀(n:Nat) (l:List Src) (c:List Ex),Rdy (fromGo ex n l c)
 |0,_,_=>aj _
 |n+1,l,c=>aY _ (ah oT fun x=>jc h n _ _) (aY _ (ah oT fun x=>ah (ar _) fun _=>ah h fun e=>jc h n _ _) (aj _))
theorem ml {ex:M Ex} (h:Rdy ex):Rdy (fromP ex):=⟨fun s=> (ah oT fun x=>jc h (s.r.length+1) [x] []).sfx s,fun hf s=>by
 unfold fromP
 rw[nt]
 exact(ah oT fun x=>jc h (s.r.length+1) [x] []).mp hf s⟩
theorem rdy_stmt {ex:M Ex} (h:Rdy ex) (k:List Ex→Ex):Rdy (dj ex posP k fQ):=by
 have e:Rdy (fun s:Ps=> (stZ,s.fail)):=⟨fun s=>Sfx.fail s,fun _ _=>rfl⟩
 unfold dj createP dz dA dB queryP itmsP cY itm1 cr fT da limP tupP asgP whrP nmP fQ dG
 repeat' first
  |exact h
  |exact e
  |exact rdy_tak (by omega)
  |exact rdy_num
  |exact kF
  |exact rdy_col
  |exact aj _
  |exact ar _
  |exact nu h
  |exact ml h
  |apply bB
  |apply aY
  |apply rdy_fst
  |apply ah
  |split
  |intro _
theorem rdy_stm (n:Nat):Rdy (stmP n):=rdy_stmt (cR n) _
def Ended (s:Ps):Prop:=∃A z,s.r=A++ [z]∧z.kind=0∧∀a∈A,a.kind≠0
theorem Ended.hd {s:Ps} (h:Ended s):s.hd∈s.r:=by
 obtain⟨A,z,e,_⟩:=h
 unfold Ps.hd
 cases g:s.r with
 |nil=>rw[g]at e;simp at e
 |cons a l=>simp
end
section
open Lx (Tk isDigit isLetter inWord spanN isPrint)
def parS (vld:St→Int) (s:BA):St×Int×Int:=
 match Lx.tokAll s with
 | .bad a e=> (stZ,(a:Int),(e:Int))
 | .ok L=>
  match eM (stmP (L.length+1)) L with
  | .inl a=> (stZ,(a:Int),2)
  | .inr x=>if vld x=0 then (x,0,0)else (stZ,((⟨L,false⟩:Ps).hd.pos:Int),vld x)
def parE (vld:Ex→Int) (s:BA):Ex×Int×Int:=
 match Lx.tokAll s with
 | .bad a e=> (exZ,(a:Int),(e:Int))
 | .ok L=>
  match eM (exprP (L.length+1)) L with
  | .inl a=> (exZ,(a:Int),2)
  | .inr x=>if vld x=0 then (x,0,0)else (exZ,((⟨L,false⟩:Ps).hd.pos:Int),vld x)
end
end Go.Proofs.YtjigcpfjhfoheaaGreatDoor
