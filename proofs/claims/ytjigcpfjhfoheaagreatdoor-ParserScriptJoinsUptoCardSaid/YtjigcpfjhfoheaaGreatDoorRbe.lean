/- Walks: the reference's well-formed statements; Walks: the reference's well-formed rows, assignments and queries; Walks: the reference's texts of definitions. -/
import Derived.Test.YtjigcpfjhfoheaaGreatDoorRbb
import Derived.Test.YtjigcpfjhfoheaaGreatDoorRah
import Derived.Test.YtjigcpfjhfoheaaGreatDoorRbd
namespace Go.Proofs.YtjigcpfjhfoheaaGreatDoor
open Go.RowKit
set_option maxHeartbeats 4000000
set_option maxRecDepth 100000
set_option linter.unusedVariables false
set_option linter.unusedSimpArgs false
theorem bt {α:Type} {l:List α} {k:Nat} {x:α} {p:α→Bool} (h:l[k]? =some x) (a:(l.take k).all p=true) (b:p x=true):(l.take (k+1)).all p=true:=by
 rw[bW h,List.all_append,a]
 simp[b]
theorem bu {α:Type} {l:List α} {k:Nat} {x:α} {p:α→Bool} (h:l[k]? =some x) (a:p x=false):l.all p=false:=by
 rw[List.all_eq_false]
 exact⟨x,List.mem_of_getElem? h,by simp[a]⟩
theorem bZ {α:Type} {l:List α} {k:Nat} {p:α→Bool} (h:l.length=k) (a:(l.take k).all p=true):l.all p=true:=by
 rwa [List.take_of_length_le (by omega)]at a
theorem pz (x:Cd) (w:World) (t:x.nm.size≤9223372036854775807∧I64 x.ty∧I64 x.lo∧I64 x.hi∧I64 x.mx):
  Calls Tryz.prog 217 #[.agg #[.string x.nm,.int .i64 x.ty,.int .i64 x.lo,.int .i64 x.hi,.int .i64 x.mx,.bool x.nn]] w fun r w'=>r= .returned (.bool x.ok)∧Ext w w':=by
 have g:=hid (fun W=>bq x.nm W t.1)
 have z:=hid (fun W=>eK x.mx W)
 obtain⟨R,e⟩:∃R,x.ok=R:=⟨_,rfl⟩
 rw[e]
 unfold Cd.ok inB at e
 obtain⟨nm,ty,lo,hi,mx,nn⟩:=x
 simp only at*
 clear t
 generalize nameB nm=A at*
 obtain⟨c1,i⟩:∃b,(ty==1)=b:=⟨_,rfl⟩
 obtain⟨c2,j⟩:∃b,(ty==2)=b:=⟨_,rfl⟩
 obtain⟨l1,n⟩:∃b,decide (-2147483648≤lo)=b:=⟨_,rfl⟩
 obtain⟨K,o⟩:∃b,decide (lo≤2147483648)=b:=⟨_,rfl⟩
 obtain⟨H,k⟩:∃b,decide (-2147483648≤hi)=b:=⟨_,rfl⟩
 obtain⟨I,l⟩:∃b,decide (hi≤2147483648)=b:=⟨_,rfl⟩
 obtain⟨O,s⟩:∃b,(mx==0)=b:=⟨_,rfl⟩
 obtain⟨L,p⟩:∃b,(lo==0)=b:=⟨_,rfl⟩
 obtain⟨J,m⟩:∃b,(hi==0)=b:=⟨_,rfl⟩
 rw[i,j,n,o,k,l,s,p,m]at e
 generalize (decide (0≤mx) &&decide (mx≤2147483648))=u at*
 have h:=hid e
 clear e
 cases A
 ·go_enter Tryz.func217,Tryz.ntmps217
  go_wp2_with (go_at_call 144;refine(g _).mono ?_;rintro _ y ⟨rfl,a⟩)
  go_ret
  exact⟨aa (by rw[←h.out];simp),((Ext.refl w).alloc _).trans a⟩
 ·cases c1
  ·cases c2<;>cases L<;>cases J
   all_goals
    have f:=hid (Blk.of_new w 99 [.string nm,.int .i64 ty,.int .i64 lo,.int .i64 hi,.int .i64 mx,.bool nn])
    go_enter Tryz.func217,Tryz.ntmps217
    go_wp2_with (first|(go_at_call 144;refine(g _).mono ?_;rintro _ y ⟨rfl,a⟩;obtain⟨B,C,D,E,F,G,-⟩:=cls (f.ext a))|(go_at_call 219;refine(z _).mono ?_;rintro _ _ ⟨rfl,rfl⟩))
    go_ret
    exact⟨aa (by rw[←h.out];simp),((Ext.refl w).alloc _).trans a⟩
  ·cases l1<;>cases K<;>cases H<;>cases I
   all_goals
    have f:=hid (Blk.of_new w 99 [.string nm,.int .i64 ty,.int .i64 lo,.int .i64 hi,.int .i64 mx,.bool nn])
    go_enter Tryz.func217,Tryz.ntmps217
    go_wp2_with (first|(go_at_call 144;refine(g _).mono ?_;rintro _ y ⟨rfl,a⟩;obtain⟨B,C,D,E,F,G,-⟩:=cls (f.ext a)))
    go_ret
    exact⟨aa (by rw[←h.out];simp),((Ext.refl w).alloc _).trans a⟩
theorem iz (l:List ByteArray) (A:Option Addr) (n c:Nat) (w:World) (p:l.length=n) (J:n≤9223372036854775807) (C:aM w A l):
  Calls Tryz.prog 218 #[.slice A n c] w fun r w'=>r= .returned (.bool (namesB l))∧Ext w w':=by
 have z:=hid p
 have D:=hid C
 obtain⟨R,o⟩:∃R,namesB l=R:=⟨_,rfl⟩
 rw[o]
 rw[na,gR,Bool.not_not,p]at o
 have B:=hid o
 clear p C o
 go_enter Tryz.func218,Tryz.ntmps218
 go_wp2_with fail
 go_loopw [3] (fun G wr=> ∃(k:Nat),k≤n∧G= .int .i64 k∧(l.take k).all nameB=true∧Ext w wr) (fun i _=>n- (intOf i).toNat)
 case atStart=>exact⟨0,Nat.zero_le _,rfl,rfl,Ext.refl w⟩
 case round=>
  obtain⟨k,F,rfl,t,f⟩:=hrel
  have a:=hid f
  have j:=hid t
  by_cases s:k<n
  ·obtain⟨x,u⟩:=aq z s
   obtain⟨E,b,H,rfl,K⟩:=(D.ext f) k x u
   have y:=hid u
   have m:=hid (bq x wr E)
   clear u f t
   cases g:nameB x
   ·have h:Hid (l.all nameB=false):=bu y g
    rw[g]at m
    clear g
    go_wp2_with (go_at_call 144;refine m.mono ?_;rintro _ I ⟨rfl,e⟩)
    go_ret
    exact⟨aa (by rw[←B.out,h.out];simp),a.trans e⟩
   ·have h:Hid ((l.take (k+1)).all nameB=true):=bt y j g
    rw[g]at m
    clear g
    go_wp2_with (go_at_call 144;refine m.mono ?_;rintro _ I ⟨rfl,e⟩)
    go_roundw
    case rel=>exact⟨k+1,by omega,by go_num,h,a.trans e⟩
    case measure=>simp[intOf];omega
  ·obtain rfl:k=n:=by omega
   have h:Hid (l.all nameB=true):=bZ z j
   clear t
   go_wp2_with fail
   go_ret
   exact⟨aa (by rw[←B.out,h.out];simp),a⟩
theorem qF (s : St) (a : SA) (w : World) (F : StV w s a) (L : s.cols.length + s.keys.length + s.frs.length + s.chk.length ≤ 1048576) :
    Calls Tryz.prog 146 #[.agg #[a.cols.v, a.keys.v, a.frs.v, a.chk.v]] w fun r w' => r = .returned (.bool s.defOk) ∧ Ext w w' := by
  have z := hid F
  rw [F.cols.1, F.keys.1, F.frs.1, F.chk.1] at L
  obtain ⟨R, X⟩ : ∃ R, s.defOk = R := ⟨_, rfl⟩
  rw [X]
  unfold St.defOk St.noDef at X
  rw [F.cols.1, F.keys.1, F.frs.1, F.chk.1] at X
  have J := hid X
  clear F X
  unfold Sl.v
  have U := hid (Blk.of_new w 29 [.slice a.cols.A a.cols.n a.cols.c, .slice a.keys.A a.keys.n a.keys.c, .slice a.frs.A a.frs.n a.frs.c, .slice a.chk.A a.chk.n a.chk.c])
  have C := hid ((Ext.refl w).alloc (.cells #[.slice a.cols.A a.cols.n a.cols.c, .slice a.keys.A a.keys.n a.keys.c, .slice a.frs.A a.frs.n a.frs.c, .slice a.chk.A a.chk.n a.chk.c] 29))
  go_enter Tryz.func146, Tryz.ntmps146
  go_wp2_with fail
  generalize w.alloc (.cells _ 29) = w1 at *
  go_loopw [3] (fun Q wr => ∃ (k : Nat), k ≤ a.cols.n ∧ Q = .int .i64 k ∧ (s.cols.take k).all Cd.ok = true ∧ Ext w1 wr) (fun i _ => a.cols.n - (intOf i).toNat)
  case atStart => exact ⟨0, Nat.zero_le _, rfl, rfl, Ext.refl _⟩
  case round =>
    obtain ⟨k, O, rfl, t, f⟩ := hrel
    have h := hid f
    have j := hid t
    have o := (U.ext f).cell 0
    simp only [List.getElem?_cons_succ, List.getElem?_cons_zero] at o
    by_cases p : k < a.cols.n
    · obtain ⟨x, u⟩ := aq z.cols.1 p
      obtain ⟨hc, b, y, D, q0, q1, q2, q3, q4, q5⟩ := (z.cols.2.2.ext (C.trans f)) k x u
      rw [D] at o
      clear D
      have m := hid (pz x wr hc)
      have B := hid u
      clear u f t
      cases hp : Cd.ok x
      · have g : Hid (s.cols.all Cd.ok = false) := bu B hp
        rw [hp] at m
        clear hp
        go_wp2_with (go_at_call 217; refine m.mono ?_; rintro _ H ⟨rfl, e⟩)
        go_ret
        exact ⟨aa (by rw [← J.out, g.out]; simp), C.trans (h.trans e)⟩
      · have g : Hid ((s.cols.take (k + 1)).all Cd.ok = true) := bt B j hp
        rw [hp] at m
        clear hp
        go_wp2_with (go_at_call 217; refine m.mono ?_; rintro _ H ⟨rfl, e⟩)
        go_roundw
        case rel => exact ⟨k + 1, by omega, by go_num, g, h.trans e⟩
        case measure => simp [intOf]; omega
    · obtain rfl : k = a.cols.n := by omega
      have E : Hid (s.cols.all Cd.ok = true) := bZ z.cols.1 j
      clear t
      have ac := E
      go_wp2_with fail
      clear E o
      clear f j
      go_loopw [4] (fun Q wr => ∃ (k : Nat), k ≤ a.keys.n ∧ Q = .int .i64 k ∧ (s.keys.take k).all namesB = true ∧ Ext w1 wr) (fun i _ => a.keys.n - (intOf i).toNat)
      case atStart => exact ⟨0, Nat.zero_le _, rfl, rfl, h⟩
      case round =>
        obtain ⟨k, O, rfl, t, f⟩ := hrel
        have h := hid f
        have j := hid t
        have o := (U.ext f).cell 1
        simp only [List.getElem?_cons_succ, List.getElem?_cons_zero] at o
        by_cases p : k < a.keys.n
        · obtain ⟨x, u⟩ := aq z.keys.1 p
          obtain ⟨b, y, Ai, ni, ci, D, q0, K, Z, V⟩ := (z.keys.2.2.ext (C.trans f)) k x u
          rw [D] at o
          clear D
          have m := hid (iz x Ai ni ci wr K Z V)
          clear V
          have B := hid u
          clear u f t
          cases hp : namesB x
          · have g : Hid (s.keys.all namesB = false) := bu B hp
            rw [hp] at m
            clear hp
            go_wp2_with (go_at_call 218; refine m.mono ?_; rintro _ H ⟨rfl, e⟩)
            go_ret
            exact ⟨aa (by rw [← J.out, g.out]; simp), C.trans (h.trans e)⟩
          · have g : Hid ((s.keys.take (k + 1)).all namesB = true) := bt B j hp
            rw [hp] at m
            clear hp
            go_wp2_with (go_at_call 218; refine m.mono ?_; rintro _ H ⟨rfl, e⟩)
            go_roundw
            case rel => exact ⟨k + 1, by omega, by go_num, g, h.trans e⟩
            case measure => simp [intOf]; omega
        · obtain rfl : k = a.keys.n := by omega
          have E : Hid (s.keys.all namesB = true) := bZ z.keys.1 j
          clear t
          have ag := E
          go_wp2_with fail
          clear E o
          clear f j
          go_loopw [5] (fun Q wr => ∃ (k : Nat), k ≤ a.frs.n ∧ Q = .int .i64 k ∧ (s.frs.take k).all Rf.ok = true ∧ Ext w1 wr) (fun i _ => a.frs.n - (intOf i).toNat)
          case atStart => exact ⟨0, Nat.zero_le _, rfl, rfl, h⟩
          case round =>
            obtain ⟨k, O, rfl, t, f⟩ := hrel
            have h := hid f
            have j := hid t
            have o := (U.ext f).cell 2
            simp only [List.getElem?_cons_succ, List.getElem?_cons_zero] at o
            by_cases p : k < a.frs.n
            · obtain ⟨x, u⟩ := aq z.frs.1 p
              obtain ⟨h0, b, y, A1, n1, c1, A2, n2, c2, D, q0, q1, q2, K, Z, V, h4, h5, h6⟩ := (z.frs.2.2.ext (C.trans f)) k x u
              rw [D] at o
              clear D
              have H1 := hid (fun W (I : Ext wr W) => iz x.cs A1 n1 c1 W K Z (V.ext I))
              have H2 := hid (fun W (I : Ext wr W) => bq x.tb W h0)
              have H3 := hid (fun W (I : Ext wr W) => iz x.tg A2 n2 c2 W h4 h5 (h6.ext I))
              have B := hid u
              have Y : Hid (∀ W, Ext wr W → W.cell? ⟨w.heap.size, 2, none⟩ = some (.slice (some ⟨b, y, none⟩) a.frs.n a.frs.c) ∧ W.cell? ⟨b, y + k * 3 + 1, none⟩ = some (.string x.tb) ∧ W.cell? ⟨b, y + k * 3 + 2, none⟩ = some (.slice A2 n2 c2)) := fun W I => ⟨I.keep o, I.keep q1, I.keep q2⟩
              have G : Hid (x.ok = (namesB x.cs && nameB x.tb && namesB x.tg)) := rfl
              clear u f t h0 K Z V h4 h5 h6
              cases hp : Rf.ok x
              · have g : Hid (s.frs.all Rf.ok = false) := bu B hp
                rw [hp] at G
                clear hp
                generalize namesB x.cs = b1 at *
                generalize nameB x.tb = b2 at *
                generalize namesB x.tg = b3 at *
                cases b1 <;> cases b2 <;> cases b3
                all_goals
                  first
                    | exact absurd G.out (by decide)
                    | (go_wp2_with (first | (go_at_call 218; (with_reducible refine (H1.out _ (Ext.refl _)).mono ?_); rintro _ H ⟨rfl, e⟩; obtain ⟨d0, d1, d2⟩ := Y H e) | (go_at_call 144; (with_reducible refine (H2.out _ e).mono ?_); rintro _ w3 ⟨rfl, l⟩; obtain ⟨e0, e1, e2⟩ := Y w3 (e.trans l)) | (go_at_call 218; (with_reducible refine (H3.out _ (e.trans l)).mono ?_); rintro _ w4 ⟨rfl, P⟩))
                       go_ret
                       first
                         | exact ⟨aa (by rw [← J.out, g.out]; simp), C.trans (h.trans ((e.trans l).trans P))⟩
                         | exact ⟨aa (by rw [← J.out, g.out]; simp), C.trans (h.trans (e.trans l))⟩
                         | exact ⟨aa (by rw [← J.out, g.out]; simp), C.trans (h.trans e)⟩)
              · have g : Hid ((s.frs.take (k + 1)).all Rf.ok = true) := bt B j hp
                rw [hp] at G
                clear hp
                have L := G.symm
                simp only [Bool.and_eq_true] at L
                rw [L.1.1] at H1
                rw [L.1.2] at H2
                rw [L.2] at H3
                clear L
                go_wp2_with (first | (go_at_call 218; (with_reducible refine (H1.out _ (Ext.refl _)).mono ?_); rintro _ H ⟨rfl, e⟩; obtain ⟨d0, d1, d2⟩ := Y H e) | (go_at_call 144; (with_reducible refine (H2.out _ e).mono ?_); rintro _ w3 ⟨rfl, l⟩; obtain ⟨e0, e1, e2⟩ := Y w3 (e.trans l)) | (go_at_call 218; (with_reducible refine (H3.out _ (e.trans l)).mono ?_); rintro _ w4 ⟨rfl, P⟩))
                go_roundw
                case rel => exact ⟨k + 1, by omega, by go_num, g, h.trans ((e.trans l).trans P)⟩
                case measure => simp [intOf]; omega
            · obtain rfl : k = a.frs.n := by omega
              have E : Hid (s.frs.all Rf.ok = true) := bZ z.frs.1 j
              clear t
              have ad := E
              go_wp2_with fail
              clear E o
              clear f j
              go_loopw [6] (fun Q wr => ∃ (k : Nat), k ≤ a.chk.n ∧ Q = .int .i64 k ∧ (s.chk.take k).all Ex.formed = true ∧ Ext w1 wr) (fun i _ => a.chk.n - (intOf i).toNat)
              case atStart => exact ⟨0, Nat.zero_le _, rfl, rfl, h⟩
              case round =>
                obtain ⟨k, O, rfl, t, f⟩ := hrel
                have h := hid f
                have j := hid t
                have o := (U.ext f).cell 3
                simp only [List.getElem?_cons_succ, List.getElem?_cons_zero] at o
                by_cases p : k < a.chk.n
                · obtain ⟨x, u⟩ := aq z.chk.1 p
                  obtain ⟨b, y, Ai, ni, ci, D, q0, q1, q2, q3, q4, q5, q6, q7, K⟩ := (z.chk.2.2.ext (C.trans f)).get u
                  rw [D] at o
                  clear D
                  have m := hid (cC x Ai ni ci wr K)
                  clear K
                  unfold Nd.val at m
                  have B := hid u
                  clear u f t
                  cases hp : Ex.formed x
                  · have g : Hid (s.chk.all Ex.formed = false) := bu B hp
                    rw [hp] at m
                    clear hp
                    go_wp2_with (go_at_call 84; refine m.mono ?_; rintro _ H ⟨rfl, e⟩)
                    go_ret
                    exact ⟨aa (by rw [← J.out, g.out]; simp), C.trans (h.trans e)⟩
                  · have g : Hid ((s.chk.take (k + 1)).all Ex.formed = true) := bt B j hp
                    rw [hp] at m
                    clear hp
                    go_wp2_with (go_at_call 84; refine m.mono ?_; rintro _ H ⟨rfl, e⟩)
                    go_roundw
                    case rel => exact ⟨k + 1, by omega, by go_num, g, h.trans e⟩
                    case measure => simp [intOf]; omega
                · obtain rfl : k = a.chk.n := by omega
                  have E : Hid (s.chk.all Ex.formed = true) := bZ z.chk.1 j
                  clear t
                  obtain ⟨an, ax, a0, -⟩ := cls (U.ext f)
                  clear f
                  have f1 : (IntKind.i64.wrap ((a.cols.n : Int) + (a.keys.n : Int))) = (a.cols.n : Int) + (a.keys.n : Int) := IntWalk.i64_in _ (by omega)
                  go_wp2_with fail
                  go_ret
                  refine ⟨aa ?_, C.trans h⟩
                  rw [← J.out, ac.out, ag.out, ad.out, E.out]
                  rw [Bool.eq_iff_iff]
                  simp
                  omega
theorem esz:(((⟨#[]⟩:ByteArray)).size==0)=true:=rfl
theorem kl (e:Ex) (A:Option Addr) (n c:Nat) (w:World) (z:ExV w e A n c):
  Calls Tryz.prog 145 #[e.d.val A n c] w fun r w'=>r= .returned (.bool e.absent)∧Ext w w':=by
 have p:e.absent=(e.d.op==0&&e.d.tb.size==0&&e.d.nm.size==0&& (e.d.vk==0&&e.d.vi==0&&e.d.vt.size==0) &&decide (n=0)):=by
  unfold Ex.absent Nd.valZ
  congr 1
  have h:=z.len
  cases y:e.ks with
  |nil=>rw[y]at h;simp at h;simp[←h]
  |cons a l=>rw[y]at h;simp at h;simp;omega
 generalize e.absent=R at*
 unfold Nd.val
 generalize e.d=d at*
 obtain⟨op,tb,nm,ix,vk,vi,vt⟩:=d
 simp only at*
 clear z
 obtain⟨o,x⟩:∃b,(op==0)=b:=⟨_,rfl⟩
 obtain⟨C,t⟩:∃b,(vk==0)=b:=⟨_,rfl⟩
 obtain⟨B,s⟩:∃b,(vi==0)=b:=⟨_,rfl⟩
 have u:((n:Int)==0)=decide (n=0):=by rw[Bool.eq_iff_iff];simp
 obtain⟨F,m⟩:∃b,decide (n=0)=b:=⟨_,rfl⟩
 rw[x,t,s,m]at p
 rw[m]at u
 have g:=hid p
 clear p m
 by_cases i:tb.size=0
 ·obtain rfl:=bi i
  simp only[esz]at g
  by_cases k:nm.size=0
  ·obtain rfl:=bi k
   simp only[esz]at g
   by_cases f:vt.size=0
   ·obtain rfl:=bi f
    simp only[esz]at g
    clear i k f
    cases o<;>cases C<;>cases B
    all_goals
     go_enter Tryz.func145,Tryz.ntmps145
     go_wp2_with fail
     go_ret
     exact⟨aa (by rw[g.out];simp),(Ext.refl w).alloc _⟩
   ·have D:=bB f
    have E:=bo f
    have j:(vt.size==0)=false:=by simpa using f
    rw[j]at g
    clear i k f j
    cases o<;>cases C<;>cases B
    all_goals
     go_enter Tryz.func145,Tryz.ntmps145
     go_wp2_with fail
     go_ret
     exact⟨aa (by rw[g.out];simp),(Ext.refl w).alloc _⟩
  ·have D:=bB k
   have E:=bo k
   have j:(nm.size==0)=false:=by simpa using k
   rw[j]at g
   clear i k j
   cases o
   all_goals
    go_enter Tryz.func145,Tryz.ntmps145
    go_wp2_with fail
    go_ret
    exact⟨aa (by rw[g.out];simp),(Ext.refl w).alloc _⟩
 ·have D:=bB i
  have E:=bo i
  have j:(tb.size==0)=false:=by simpa using i
  rw[j]at g
  clear i j
  cases o
  all_goals
   go_enter Tryz.func145,Tryz.ntmps145
   go_wp2_with fail
   go_ret
   exact⟨aa (by rw[g.out];simp),(Ext.refl w).alloc _⟩
theorem pA (L:List (List Ex)) (A:Option Addr) (n c:Nat) (w:World) (X:L.length=n) (hn:n≤9223372036854775807) (V:dh w A L) (Y:∀l∈L,l.length≤9223372036854775807):
  Calls Tryz.prog 147 #[.slice A n c] w fun r w'=>r= .returned (.bool (decide (0<n) &&L.all rowOk))∧Ext w w':=by
 have Q:=hid X
 have HK:=hid V
 have HM:=hid Y
 clear X V Y
 go_enter Tryz.func147,Tryz.ntmps147
 go_wp2_with fail
 go_loopw [3] (fun iv wr=> ∃(k:Nat),k≤n∧iv= .int .i64 k∧(L.take k).all rowOk=true∧Ext w wr) (fun i _=>n- (intOf i).toNat)
 case atStart=>exact⟨0,Nat.zero_le _,rfl,rfl,Ext.refl w⟩
 case round=>
  obtain⟨k,ad,rfl,J,t⟩:=hrel
  have g:=hid t
  have D:=hid J
  by_cases I:k<n
  ·obtain⟨l,h⟩:=aq Q I
   obtain⟨b,an,Ai,y,ci,rfl,O,H,R⟩:=(HK.ext t) k l h
   have G:=hid h
   have ag:y≤9223372036854775807:=by have:=HM l (List.mem_of_getElem? h);omega
   have P:=hid H
   have H2:=hid R
   have HQ:=hid (fun W (hW:Ext wr W)=>hW.keep O)
   have a:Hid (rowOk l=(decide (0<y) &&l.all Ex.formed)):=by unfold Hid rowOk;rw[H]
   clear h t J H R
   go_wp2_with fail
   clear O
   go_loopw [4] (fun jv w2=> ∃(j:Nat),j≤y∧jv= .int .i64 j∧(l.take j).all Ex.formed=true∧Ext wr w2) (fun j _=>y- (intOf j).toNat)
   case atStart=>exact⟨0,Nat.zero_le _,rfl,rfl,Ext.refl wr⟩
   case round=>
    rename_i w2 _ _
    obtain⟨j,ac,rfl,p,e⟩:=hrel
    have f:=hid e
    have C:=hid p
    have O:=HQ _ e
    by_cases E:j<y
    ·obtain⟨x,h⟩:=aq P E
     obtain⟨b2,Z,Aj,nj,cj,rfl,p0,p1,p2,p3,p4,p5,p6,p7,U⟩:=(H2.ext e).get h
     have z:=hid (cC x Aj nj cj _ U)
     have B:=hid h
     unfold Nd.val at z
     clear h U e p
     cases u:x.formed
     ·have m:Hid (L.all rowOk=false):=bu G (by rw[a.out,bu B.out u];simp)
      rw[u]at z
      clear u
      go_wp2_with (go_at_call 84;refine z.mono ?_;rintro _ w3 ⟨rfl,s⟩)
      go_ret
      exact⟨aa (by rw[m.out];simp),g.trans (f.trans s)⟩
     ·have m:Hid ((l.take (j+1)).all Ex.formed=true):=bt B C u
      rw[u]at z
      clear u
      go_wp2_with (go_at_call 84;refine z.mono ?_;rintro _ w3 ⟨rfl,s⟩)
      go_roundw
      case rel=>exact⟨j+1,by omega,by go_num,m,f.trans s⟩
      case measure=>simp[intOf];omega
    ·obtain rfl:j=y:=by omega
     have m:Hid (l.all Ex.formed=true):=bZ P C
     clear p e
     by_cases F:j=0
     ·have K:((j:Int)==0)=true:=by simp[F]
      have o:Hid (L.all rowOk=false):=bu G (by rw[a.out];simp[F])
      clear F
      go_wp2_with fail
      go_ret
      exact⟨aa (by rw[o.out];simp),g.trans f⟩
     ·have K:((j:Int)==0)=false:=by simp[F]
      have o:Hid ((L.take (k+1)).all rowOk=true):=bt G D (by rw[a.out,m.out];simp;omega)
      clear F
      go_wp2_with fail
      go_roundw
      case rel=>exact⟨k+1,by omega,by go_num,o,g.trans f⟩
      case measure=>simp[intOf];omega
  ·obtain rfl:k=n:=by omega
   have m:Hid (L.all rowOk=true):=bZ Q D
   clear J
   go_wp2_with fail
   go_ret
   exact⟨aa (by rw[m.out];simp),g⟩
theorem rsets_any (L:List Asg) (A:Option Addr) (n c:Nat) (w:World) (P:L.length=n) (hn:n≤9223372036854775807) (O:dM w A L):
  Calls Tryz.prog 148 #[.slice A n c] w fun r w'=>r= .returned (.bool (decide (0<n) &&L.all Asg.ok))∧Ext w w':=by
 have H:=hid P
 have G:=hid O
 clear P O
 go_enter Tryz.func148,Tryz.ntmps148
 go_wp2_with fail
 go_loopw [3] (fun iv wr=> ∃(k:Nat),k≤n∧iv= .int .i64 k∧(L.take k).all Asg.ok=true∧Ext w wr) (fun i _=>n- (intOf i).toNat)
 case atStart=>exact⟨0,Nat.zero_le _,rfl,rfl,Ext.refl w⟩
 case round=>
  obtain⟨k,ac,rfl,E,j⟩:=hrel
  have h:=hid j
  have u:=hid E
  by_cases D:k<n
  ·obtain⟨x,B⟩:=aq H D
   have y:=((G.ext j) k x B).1.1
   have z:=G.ext j
   obtain⟨b,e,F,Q,J,rfl,q0,q1,R,U,V,X,Y,Z,q8,q9,K⟩:=eL z B
   have t:=hid (bq x.cl wr y)
   have s:=hid (fun W (g:Ext wr W)=>cC x.ex F Q J W (K.ext g))
   have C:=hid B
   have I:Hid (∀W,Ext wr W→W.cell? ⟨b,e+k*10+2,none⟩=some (.int .i64 x.ex.d.op)∧W.cell? ⟨b,e+k*10+3,none⟩=some (.string x.ex.d.tb)∧W.cell? ⟨b,e+k*10+4,none⟩=some (.string x.ex.d.nm)∧W.cell? ⟨b,e+k*10+5,none⟩=some (.int .i64 x.ex.d.ix)∧W.cell? ⟨b,e+k*10+6,none⟩=some (.int .i64 x.ex.d.vk)∧W.cell? ⟨b,e+k*10+7,none⟩=some (.int .i64 x.ex.d.vi)∧W.cell? ⟨b,e+k*10+8,none⟩=some (.string x.ex.d.vt)∧W.cell? ⟨b,e+k*10+9,none⟩=some (.slice F Q J)):=fun W g=>⟨g.keep R,g.keep U,g.keep V,g.keep X,g.keep Y,g.keep Z,g.keep q8,g.keep q9⟩
   have f:Hid (Asg.ok x=(nameB x.cl&&x.ex.formed)):=rfl
   unfold Nd.val at s
   clear B j E K z y q1 R U V X Y Z q8 q9
   cases m:nameB x.cl
   ·have l:Hid (L.all Asg.ok=false):=bu C (by rw[f.out,m];rfl)
    rw[m]at t
    clear m
    go_wp2_with (go_at_call 144;refine t.mono ?_;rintro _ w2 ⟨rfl,a⟩)
    go_ret
    exact⟨aa (by rw[l.out];simp),h.trans a⟩
   ·rw[m]at t
    cases p:x.ex.formed
    ·have l:Hid (L.all Asg.ok=false):=bu C (by rw[f.out,p];simp)
     rw[p]at s
     clear m p
     go_wp2_with (first|(go_at_call 144;refine t.mono ?_;rintro _ w2 ⟨rfl,a⟩;obtain⟨e2,e3,e4,e5,e6,e7,e8,e9⟩:=I _ a)|(go_at_call 84;refine(s _ a).mono ?_;rintro _ w3 ⟨rfl,o⟩))
     go_ret
     exact⟨aa (by rw[l.out];simp),h.trans (a.trans o)⟩
    ·have l:Hid ((L.take (k+1)).all Asg.ok=true):=bt C u (by rw[f.out,m,p];rfl)
     rw[p]at s
     clear m p
     go_wp2_with (first|(go_at_call 144;refine t.mono ?_;rintro _ w2 ⟨rfl,a⟩;obtain⟨e2,e3,e4,e5,e6,e7,e8,e9⟩:=I _ a)|(go_at_call 84;refine(s _ a).mono ?_;rintro _ w3 ⟨rfl,o⟩))
     go_roundw
     case rel=>exact⟨k+1,by omega,by go_num,l,h.trans (a.trans o)⟩
     case measure=>simp[intOf];omega
  ·obtain rfl:k=n:=by omega
   have l:Hid (L.all Asg.ok=true):=bZ H u
   clear E
   go_wp2_with fail
   go_ret
   exact⟨aa (by rw[l.out];simp),h⟩
theorem cma_take {l:List ByteArray} {k:Nat} {x:ByteArray} (h:l[k]? =some x) (e:0<k):cma (l.take (k+1))=cma (l.take k)++gk++x:=by
 rw[bW h]
 refine cma_step _ ?_ x
 intro b
 have:=(List.getElem?_eq_some_iff.1 h).1
 have a:(l.take k).length=k:=by rw[List.length_take];omega
 rw[b]at a
 simp at a
 omega
theorem cma_first {l:List ByteArray} {x:ByteArray} (h:l[0]? =some x):cma (l.take (0+1))=x:=by
 rw[bW h];rfl
theorem fG (l:List ByteArray) (A:Option Addr) (n c:Nat) (w:World) (s:l.length=n) (p:aM w A l) (t:bA l≤1000000000):
  Calls Tryz.prog 87 #[.slice A n c] w fun r w'=>r= .returned (.string (cma l))∧Ext w w':=by
 have j:=hid s
 have u:=hid p
 have m:=hid t
 have H:n≤1000000000:=by have:=pw l;omega
 clear s p t
 go_enter Tryz.func87,Tryz.ntmps87
 go_wp2_with fail
 go_loopw [3,4] (fun E C wr=> ∃(k:Nat),k≤n∧C= .int .i64 k∧E= .string (cma (l.take k))∧Ext w wr) (fun _ i _=>n- (intOf i).toNat)
 case atStart=>exact⟨0,Nat.zero_le _,rfl,rfl,Ext.refl w⟩
 case round=>
  obtain⟨k,y,rfl,rfl,a⟩:=hrel
  have e:=hid a
  by_cases h:k<n
  ·obtain⟨x,f⟩:=aq j h
   obtain⟨G,b,D,rfl,F⟩:=(u.ext a) k x f
   have z:x.size≤1000000000:=by have:=dJ (List.mem_of_getElem? f);have:=m.out;omega
   have B:(cma (l.take k)).size≤1000000000:=Nat.le_trans (aK _) (Nat.le_trans (sumS_take l k) m)
   by_cases o:k=0
   ·subst o
    have hd:decide ((0:Int)<((0:Nat):Int))=false:=by decide
    have g:Hid (cma (l.take (0+1))=cma (l.take 0)++x):=by
     unfold Hid
     rw[cma_first f]
     apply N_inj
     show _=(List.map _ (([]:List UInt8)++x.data.toList))
     rfl
    clear f a
    generalize cma (l.take 0)=T at*
    rw[Nat.add_zero]at F
    go_wp2_with fail
    go_roundw
    case rel=>exact⟨0+1,by omega,by go_num,by rw[g.out],e⟩
    case measure=>simp[intOf];omega
   ·have hd:0<k:=by omega
    have g:=hid (cma_take f hd)
    unfold gk at g
    clear f a o
    generalize cma (l.take k)=T at*
    go_wp2_with fail
    go_roundw
    case rel=>exact⟨k+1,by omega,by go_num,by rw[g.out],e⟩
    case measure=>simp[intOf];omega
  ·obtain rfl:k=n:=by omega
   rw[List.take_of_length_le (Nat.le_of_eq j)]
   go_wp2_with fail
   go_ret
   exact⟨rfl,e⟩
theorem cX (l:List ByteArray) (v:Value) (B n:Nat) (w:World) (h:w.ownsRow B 9 1 v n (cn l)) (e:bA l≤1000000000):
  Calls Tryz.prog 87 #[v] w fun r w'=>r= .returned (.string (cma l))∧Ext w w':=by
 obtain⟨A,c,rfl,a,b⟩:=lU h fun s hs=>by have:=dJ hs;omega
 exact fG l A n c w b a e
theorem lV (l : List Ex) (A : Option Addr) (n c : Nat) (w : World) (O : l.length = n) (L : KidsAt w A l) (C : l.all Ex.formed = true) (hs : sizeL l ≤ 1000) :
    Calls Tryz.prog 86 #[.slice A n c] w fun r w' => r = .returned (.string (exsT l)) ∧ Ext w w' := by
  obtain ⟨i0, hi, F, G, H⟩ := info_parts bX
  have J := hid O
  have V := hid L
  have R := hid C
  have W := hid hs
  have hn : n ≤ 1000 := by have h : l.length ≤ sizeL l := by rw [← fE]; exact bG (fun a => cJ a) l
                           omega
  have Y : Hid (bA (l.map fun e => e.tx 1) ≤ 1000000000) := Nat.le_trans (eq C) (by omega)
  clear O L C hs
  unfold exsT
  go_enter Tryz.func86, Tryz.ntmps86
  go_wp2_with fail
  have z := hid (bl w 9 1 0 0 0 w.heap.size #[] (Nat.le_refl _) rfl (by decide))
  go_loopw [3, 4] (fun nv iv wr => ∃ (k : Nat), k ≤ n ∧ iv = .int .i64 k ∧ wr.ownsRow w.heap.size 9 1 nv k (cn ((l.take k).map fun e => e.tx 1)) ∧ Ext w wr) (fun _ i _ => n - (intOf i).toNat)
  case atStart => exact ⟨0, Nat.zero_le _, rfl, z, (Ext.refl w).alloc _⟩
  case round =>
    obtain ⟨k, ac, rfl, m, s⟩ := hrel
    have u := hid m
    have o := hid s
    clear m
    by_cases E : k < n
    · obtain ⟨x, t⟩ := aq J E
      obtain ⟨b, ad, Q, ni, ci, rfl, q0, q1, q2, q3, q4, q5, q6, q7, K⟩ := (V.ext s).get t
      have X : Hid ((l.take (k + 1)).map (fun e => e.tx 1) = (l.take k).map (fun e => e.tx 1) ++ [x.tx 1]) := by unfold Hid; rw [bW t, List.map_append]; rfl
      have I := hid (dB x 1 Q ni ci wr K (List.all_eq_true.1 R x (List.mem_of_getElem? t)) (Nat.le_trans (dU (List.mem_of_getElem? t)) W))
      clear t s K
      unfold Nd.val at I
      generalize x.tx 1 = Z at *
      generalize x.d = d at *
      obtain ⟨op, tb, nm, ix, vk, vi, vt⟩ := d
      simp only at *
      go_wp2_with (first | (go_at_call 50; (with_reducible refine I.out.mono ?_); rintro _ P ⟨rfl, g⟩) | (at_builtin; refine wpList_append_any _ rfl (.tmp 12) (.tmp 18) 101 rfl w.heap.size 9 i0 _ 1 16 Tryz.underlying101 hi F G H rfl (by decide) _ k _ rfl ((ownN_ext u.out g).alloc _) _ _ 1 1 [.string Z] rfl (reads_new1 P _ _) (by simp [Value.oneCell']) (by unfold maxLen; omega) (by omega) (Nat.le_trans (o.out.trans g).size (by simp)) ?_; intro v1 w5 f j p; have B := hid f; have y := hid j; clear f j p))
      go_roundw
      case rel =>
        have D := aI u
        refine ⟨k + 1, by omega, by go_num, ?_, ((o.trans g).alloc _).grown y fun q hq => D q hq⟩
        rw [X.out, aT]
        exact B
      case measure => simp [intOf]; omega
    · obtain rfl : k = n := by omega
      rw [List.take_of_length_le (Nat.le_of_eq J)] at u
      have U := hid (cX _ _ _ _ wr u Y)
      go_wp2_with (go_at_call 87; refine U.mono ?_; rintro _ P ⟨rfl, g⟩)
      go_ret
      exact ⟨rfl, o.trans g⟩
theorem cd_num {x:Cd} (h:x.ok=true): -9223372036854775808<x.lo∧ -9223372036854775808<x.hi∧ -9223372036854775808<x.mx:=by
 unfold Cd.ok at h
 split at h<;>simp only[Bool.and_eq_true,ch,beq_iff_eq]at h<;>omega
set_option maxHeartbeats 5000000 in
theorem mH (s:St) (a:SA) (w:World) (Y:StV w s a) (u:s.defOk=true) (hb:s.cols.length+s.keys.length+s.frs.length+s.chk.length≤1048576) (hz:bA s.elts≤400000000) (hs:sizeL s.chk≤1000):
  Calls Tryz.prog 85 #[.agg #[a.cols.v,a.keys.v,a.frs.v,a.chk.v]] w fun r w'=>r= .returned (.string (cma s.elts))∧Ext w w':=by
 obtain⟨i0,hi,Q,R,U⟩:=info_parts bX
 have HX:=hid ((Ext.refl w).alloc (.cells #[.slice a.cols.A a.cols.n a.cols.c,.slice a.keys.A a.keys.n a.keys.c,.slice a.frs.A a.frs.n a.frs.c,.slice a.chk.A a.chk.n a.chk.c] 29))
 have a7:=hid Y.cols.1
 have a8:=hid Y.keys.1
 have a9:=hid Y.frs.1
 have ba:=hid Y.chk.1
 have b1:=hid (Y.cols.2.2.ext HX)
 have b2:=hid (Y.keys.2.2.ext HX)
 have b3:=hid (Y.frs.2.2.ext HX)
 have b4:=hid (Y.chk.2.2.ext HX)
 have bx:=hid hs
 have HZ:=hid hz
 rw[Y.cols.1,Y.keys.1,Y.frs.1,Y.chk.1]at hb
 unfold St.defOk at u
 simp only[Bool.and_eq_true]at u
 have bm:=hid u.1.1.1.2
 have bn:=hid u.1.2
 have bw:=hid u.2
 have b5:Hid (∀x∈s.keys,keyT x∈s.elts):=fun x D=>by unfold St.elts;simp only[List.mem_append];exact .inl (.inl (.inr (List.mem_map_of_mem D)))
 have b6:Hid (∀x∈s.frs,Rf.tx x∈s.elts):=fun x D=>by unfold St.elts;simp only[List.mem_append];exact .inl (.inr (List.mem_map_of_mem D))
 have HB:=hid (Blk.of_new w 29 [.slice a.cols.A a.cols.n a.cols.c,.slice a.keys.A a.keys.n a.keys.c,.slice a.frs.A a.frs.n a.frs.c,.slice a.chk.A a.chk.n a.chk.c])
 clear Y u hz hs
 unfold Sl.v
 generalize a.cols.A=cA at*
 generalize a.keys.A=kA at*
 generalize a.frs.A=fA at*
 generalize a.chk.A=xA at*
 go_enter Tryz.func85,Tryz.ntmps85
 go_wp2_with fail
 have cd:Hid ((w.alloc (.cells #[.slice cA a.cols.n a.cols.c,.slice kA a.keys.n a.keys.c,.slice fA a.frs.n a.frs.c,.slice xA a.chk.n a.chk.c] 29)).heap.size=w.heap.size+1):=by unfold Hid;simp
 generalize w.alloc (.cells _ 29)=I at*
 have b9:=hid (bl I 9 1 0 0 0 I.heap.size #[] (Nat.le_refl _) rfl (by decide))
 go_loopw [3,4] (fun nv iv wr=> ∃(k:Nat),k≤a.cols.n∧iv= .int .i64 k∧wr.ownsRow I.heap.size 9 1 nv (k) (cn ((s.cols.take k).map Cd.tx))∧Ext I wr) (fun _ i _=>a.cols.n- (intOf i).toNat)
 case atStart=>exact⟨0,Nat.zero_le _,rfl,by rw[←cd.out];exact b9,(Ext.refl I).alloc _⟩
 case round=>
  obtain⟨k,a2,rfl,p,m⟩:=hrel
  have t:=hid p
  have g:=hid m
  clear p
  by_cases P:k<a.cols.n
  ·obtain⟨x,D⟩:=aq a7 P
   obtain⟨⟨cl,cp,an,ax,a0⟩,b,a6,hA,q0,q1,q2,q3,q4,q5⟩:=(b1.ext m) k x D
   subst hA
   have J:Hid ((s.cols.take (k+1)).map Cd.tx=((s.cols.take k).map Cd.tx)++ [Cd.tx x]):=by unfold Hid;rw[bW D,List.map_append];rfl
   have u:=List.all_eq_true.1 bm x (List.mem_of_getElem? D)
   have c6:x.nm.size≤1000:=Nat.le_trans (cd_nm u) (by omega)
   have cw:=cd_ty u
   have c4:=Nat.le_trans (bh x.lo an.1 an.2) (show 21≤1000 by omega)
   have c3:=Nat.le_trans (bh x.hi ax.1 ax.2) (show 21≤1000 by omega)
   have c5:=Nat.le_trans (bh x.mx a0.1 a0.2) (show 21≤1000 by omega)
   have a1:=cd_num u
   have bd:=hid (fun W=>fh x.lo W a1.1 an.2)
   have be:=hid (fun W=>fh x.hi W a1.2.1 ax.2)
   have bf:=hid (fun W=>fh x.mx W a1.2.2 a0.2)
   have o:Hid (Cd.tx x=if x.nn=true then (if x.ty=1 then x.nm++⟨#[32,73,78,84,69,71,69,82,40]⟩++itoB x.lo++⟨#[44,32]⟩++itoB x.hi++⟨#[41]⟩else x.nm++⟨#[32,84,69,88,84,40]⟩++itoB x.mx++⟨#[41]⟩)++⟨#[32,78,79,84,32,78,85,76,76]⟩else (if x.ty=1 then x.nm++⟨#[32,73,78,84,69,71,69,82,40]⟩++itoB x.lo++⟨#[44,32]⟩++itoB x.hi++⟨#[41]⟩else x.nm++⟨#[32,84,69,88,84,40]⟩++itoB x.mx++⟨#[41]⟩)):=rfl
   clear D m cl cp an ax a0 u a1
   have H:=(HB.ext g).cell 0
   simp only[List.getElem?_cons_succ,List.getElem?_cons_zero]at H
   generalize Cd.tx x=TX at*
   generalize itoB x.lo=T1 at*
   generalize itoB x.hi=T2 at*
   generalize itoB x.mx=T3 at*
   obtain⟨nm,ty,lo,bN,mx,nn⟩:=x
   simp only at*
   have l:=hid (Blk.of_new wr 99 [.string nm,.int .i64 ty,.int .i64 lo,.int .i64 bN,.int .i64 mx,.bool nn])
   have f:=hid ((Ext.refl wr).alloc (.cells #[.string nm,.int .i64 ty,.int .i64 lo,.int .i64 bN,.int .i64 mx,.bool nn] 99))
   go_wp2_with fail
   generalize wr.alloc (.cells _ 99)=w2 at*
   generalize wr.heap.size=g2 at*
   have H3:Hid (∀z:ae w2,Calls Tryz.prog 91 _ z.now _):=fun z=>bf z.now
   obtain⟨l0,l1,l2,l3,l4,l5,-⟩:=lks l
   refine ab (by kernel_rfl) (by kernel_rfl) ?_
   repeat (go_big_quiet_step ((go_at_call 91;with_reducible exact ak (H3.out _))))
   refine wpQuiet_nil ?_
   intro w3 K
   have F:=ah K
   clear K
   clear l0 l1 l2 l3 l4 l5 H3 bf q0 q1 q2 q3 q4 q5 H
   replace l:=hid (l.ext F)
   replace f:=hid (f.trans F)
   clear F
   have c0:(nm++⟨#[32,84,69,88,84,40]⟩++T3++⟨#[41]⟩).size≤10000:=by simp only[ByteArray.size_append];show nm.size+6+T3.size+1≤_;omega
   generalize nm++⟨#[32,84,69,88,84,40]⟩++T3++⟨#[41]⟩=TC at*
   rcases cw with rfl|rfl
   ·cases nn
    ·have E:=o.out
     clear o
     simp only[if_true,Bool.false_eq_true,if_false,(by decide:¬(2:Int)=1)]at E
     rw[E]at J
     clear E
     obtain⟨e0,e1,e2,e3,e4,e5,-⟩:=cls (l)
     go_wp2_with fail
     clear e0 e1 e2 e3 e4 e5
     have H1:Hid (∀z:ae w3,Calls Tryz.prog 91 _ z.now _):=fun z=>bd z.now
     have H2:Hid (∀z:ae w3,Calls Tryz.prog 91 _ z.now _):=fun z=>be z.now
     obtain⟨l0,l1,l2,l3,l4,l5,-⟩:=lks l
     refine ab (by kernel_rfl) (by kernel_rfl) ?_
     repeat (go_big_quiet_step (first|(go_at_call 91;with_reducible exact ak (H1.out _))|(go_at_call 91;with_reducible exact ak (H2.out _))))
     refine wpQuiet_nil ?_
     intro w4 K
     have F:=ah K
     clear K
     have ck:(nm++⟨#[32,73,78,84,69,71,69,82,40]⟩++T1++⟨#[44,32]⟩++T2++⟨#[41]⟩).size≤10000:=by simp only[ByteArray.size_append];show nm.size+9+T1.size+2+T2.size+1≤_;omega
     generalize nm++⟨#[32,73,78,84,69,71,69,82,40]⟩++T1++⟨#[44,32]⟩++T2++⟨#[41]⟩=V at*
     clear l0 l1 l2 l3 l4 l5 H1 H2
     replace l:=hid (l.ext F)
     replace f:=hid (f.trans F)
     clear F
     obtain⟨e0,e1,e2,e3,e4,e5,-⟩:=cls (l)
     have L:=hid ((ownN_ext t f).alloc (.cells #[.string V] 9))
     have O:=hid (reads_new1 w4 (.string V) 9)
     go_wp2_with (at_builtin;refine wpList_append_any _ rfl (.tmp 52) (.tmp 54) 101 rfl I.heap.size 9 i0 _ 1 16 Tryz.underlying101 hi Q R U rfl (by decide) _ (k) _ rfl L.out _ _ 1 1 [.string V] rfl O.out (by simp[Value.oneCell']) (by unfold maxLen;omega) (by omega) (Nat.le_trans (g.out.trans f.out).size (by simp)) ?_;intro v1 w5 e h j;have B:=hid e;have y:=hid h;clear e h j)
     go_roundw
     case rel=>
      have C:=aI t
      refine⟨k+1,by omega,by go_num,?_,((g.trans f).alloc _).grown y fun q X=>C q X⟩
      rw[J.out,aT]
      exact B
     case measure=>simp[intOf];omega
    ·have E:=o.out
     clear o
     simp only[if_true,Bool.false_eq_true,if_false,(by decide:¬(2:Int)=1)]at E
     rw[E]at J
     clear E
     obtain⟨e0,e1,e2,e3,e4,e5,-⟩:=cls (l)
     go_wp2_with fail
     clear e0 e1 e2 e3 e4 e5
     have H1:Hid (∀z:ae w3,Calls Tryz.prog 91 _ z.now _):=fun z=>bd z.now
     have H2:Hid (∀z:ae w3,Calls Tryz.prog 91 _ z.now _):=fun z=>be z.now
     obtain⟨l0,l1,l2,l3,l4,l5,-⟩:=lks l
     refine ab (by kernel_rfl) (by kernel_rfl) ?_
     repeat (go_big_quiet_step (first|(go_at_call 91;with_reducible exact ak (H1.out _))|(go_at_call 91;with_reducible exact ak (H2.out _))))
     refine wpQuiet_nil ?_
     intro w4 K
     have F:=ah K
     clear K
     have ck:(nm++⟨#[32,73,78,84,69,71,69,82,40]⟩++T1++⟨#[44,32]⟩++T2++⟨#[41]⟩).size≤10000:=by simp only[ByteArray.size_append];show nm.size+9+T1.size+2+T2.size+1≤_;omega
     generalize nm++⟨#[32,73,78,84,69,71,69,82,40]⟩++T1++⟨#[44,32]⟩++T2++⟨#[41]⟩=V at*
     clear l0 l1 l2 l3 l4 l5 H1 H2
     replace l:=hid (l.ext F)
     replace f:=hid (f.trans F)
     clear F
     obtain⟨e0,e1,e2,e3,e4,e5,-⟩:=cls (l)
     have L:=hid ((ownN_ext t f).alloc (.cells #[.string (V++⟨#[32,78,79,84,32,78,85,76,76]⟩)] 9))
     have O:=hid (reads_new1 w4 (.string (V++⟨#[32,78,79,84,32,78,85,76,76]⟩)) 9)
     go_wp2_with (at_builtin;refine wpList_append_any _ rfl (.tmp 52) (.tmp 54) 101 rfl I.heap.size 9 i0 _ 1 16 Tryz.underlying101 hi Q R U rfl (by decide) _ (k) _ rfl L.out _ _ 1 1 [.string (V++⟨#[32,78,79,84,32,78,85,76,76]⟩)] rfl O.out (by simp[Value.oneCell']) (by unfold maxLen;omega) (by omega) (Nat.le_trans (g.out.trans f.out).size (by simp)) ?_;intro v1 w5 e h j;have B:=hid e;have y:=hid h;clear e h j)
     go_roundw
     case rel=>
      have C:=aI t
      refine⟨k+1,by omega,by go_num,?_,((g.trans f).alloc _).grown y fun q X=>C q X⟩
      rw[J.out,aT]
      exact B
     case measure=>simp[intOf];omega
   ·cases nn
    ·have E:=o.out
     clear o
     simp only[if_true,Bool.false_eq_true,if_false,(by decide:¬(2:Int)=1)]at E
     rw[E]at J
     clear E
     obtain⟨e0,e1,e2,e3,e4,e5,-⟩:=cls (l)
     have L:=hid ((ownN_ext t f).alloc (.cells #[.string TC] 9))
     have O:=hid (reads_new1 w3 (.string TC) 9)
     go_wp2_with (at_builtin;refine wpList_append_any _ rfl (.tmp 52) (.tmp 54) 101 rfl I.heap.size 9 i0 _ 1 16 Tryz.underlying101 hi Q R U rfl (by decide) _ (k) _ rfl L.out _ _ 1 1 [.string TC] rfl O.out (by simp[Value.oneCell']) (by unfold maxLen;omega) (by omega) (Nat.le_trans (g.out.trans f.out).size (by simp)) ?_;intro v1 w5 e h j;have B:=hid e;have y:=hid h;clear e h j)
     go_roundw
     case rel=>
      have C:=aI t
      refine⟨k+1,by omega,by go_num,?_,((g.trans f).alloc _).grown y fun q X=>C q X⟩
      rw[J.out,aT]
      exact B
     case measure=>simp[intOf];omega
    ·have E:=o.out
     clear o
     simp only[if_true,Bool.false_eq_true,if_false,(by decide:¬(2:Int)=1)]at E
     rw[E]at J
     clear E
     obtain⟨e0,e1,e2,e3,e4,e5,-⟩:=cls (l)
     have L:=hid ((ownN_ext t f).alloc (.cells #[.string (TC++⟨#[32,78,79,84,32,78,85,76,76]⟩)] 9))
     have O:=hid (reads_new1 w3 (.string (TC++⟨#[32,78,79,84,32,78,85,76,76]⟩)) 9)
     go_wp2_with (at_builtin;refine wpList_append_any _ rfl (.tmp 52) (.tmp 54) 101 rfl I.heap.size 9 i0 _ 1 16 Tryz.underlying101 hi Q R U rfl (by decide) _ (k) _ rfl L.out _ _ 1 1 [.string (TC++⟨#[32,78,79,84,32,78,85,76,76]⟩)] rfl O.out (by simp[Value.oneCell']) (by unfold maxLen;omega) (by omega) (Nat.le_trans (g.out.trans f.out).size (by simp)) ?_;intro v1 w5 e h j;have B:=hid e;have y:=hid h;clear e h j)
     go_roundw
     case rel=>
      have C:=aI t
      refine⟨k+1,by omega,by go_num,?_,((g.trans f).alloc _).grown y fun q X=>C q X⟩
      rw[J.out,aT]
      exact B
     case measure=>simp[intOf];omega
  ·have H:=(HB.ext g).cell 0
   simp only[List.getElem?_cons_succ,List.getElem?_cons_zero]at H
   obtain rfl:k=a.cols.n:=by omega
   rw[List.take_of_length_le (Nat.le_of_eq a7)]at t
   go_wp2_with fail
   clear H m
   have ac:=t
   have ad:=g
   clear t g
   go_loopw [3,7] (fun nv iv wr=> ∃(k:Nat),k≤a.keys.n∧iv= .int .i64 k∧wr.ownsRow I.heap.size 9 1 nv (a.cols.n+k) (cn (s.cols.map Cd.tx++(s.keys.take k).map keyT))∧Ext I wr) (fun _ i _=>a.keys.n- (intOf i).toNat)
   case atStart=>exact⟨0,Nat.zero_le _,rfl,by simpa using ac.out,ad⟩
   case round=>
    obtain⟨k,a2,rfl,p,m⟩:=hrel
    have t:=hid p
    have g:=hid m
    clear p
    by_cases P:k<a.keys.n
    ·obtain⟨x,D⟩:=aq a8 P
     obtain⟨b,a6,Ai,ni,ci,hA,q0,h1,h2,h3⟩:=(b2.ext m) k x D
     have J:Hid (s.cols.map Cd.tx++(s.keys.take (k+1)).map keyT=(s.cols.map Cd.tx++(s.keys.take k).map keyT)++ [keyT x]):=by unfold Hid;rw[bW D,List.map_append];exact(List.append_assoc _ _ _).symm
     have a5:=dJ (b5 x (List.mem_of_getElem? D))
     have a4:bA x≤(cma x).size+2:=fi x
     have a3:(keyT x).size=8+(cma x).size+1:=by unfold keyT;rw[ByteArray.size_append,ByteArray.size_append];rfl
     have cj:(cma x).size≤1000000000:=by have:=HZ.out;omega
     have HJ:=hid (fG x Ai ni ci wr h1 h3 (by have:=HZ.out;omega))
     have o:Hid (keyT x=⟨#[85,78,73,81,85,69,32,40]⟩++cma x++⟨#[41]⟩):=rfl
     clear D m h1 h2 h3 a5 a4 a3
     generalize cma x=T1 at*
     subst hA
     have E:=o.out
     clear o
     rw[E]at J
     clear E
     have f:Hid (Ext wr wr):=Ext.refl wr
     have H:=(HB.ext g).cell 1
     simp only[List.getElem?_cons_succ,List.getElem?_cons_zero]at H
     go_wp2_with (first|(go_at_call 87;refine HJ.out.mono ?_;rintro _ w2 ⟨rfl,ag⟩;replace f:Hid (Ext wr w2):=ag)|(at_builtin;generalize ⟨#[85,78,73,81,85,69,32,40]⟩++T1++⟨#[41]⟩=V at*;refine wpList_append_any _ rfl (.tmp 63) (.tmp 72) 101 rfl I.heap.size 9 i0 _ 1 16 Tryz.underlying101 hi Q R U rfl (by decide) _ (a.cols.n+k) _ rfl ((ownN_ext t.out f.out).alloc _) _ _ 1 1 [.string V] rfl (reads_new1 w2 _ _) (by simp[Value.oneCell']) (by unfold maxLen;omega) (by omega) (Nat.le_trans (g.out.trans f.out).size (by simp)) ?_;intro v1 w5 e h j;have B:=hid e;have y:=hid h;clear e h j))
     go_roundw
     case rel=>
      have C:=aI t
      refine⟨k+1,by omega,by go_num,?_,((g.trans f).alloc _).grown y fun q X=>C q X⟩
      rw[J.out,aT]
      exact B
     case measure=>simp[intOf];omega
    ·have H:=(HB.ext g).cell 1
     simp only[List.getElem?_cons_succ,List.getElem?_cons_zero]at H
     obtain rfl:k=a.keys.n:=by omega
     rw[List.take_of_length_le (Nat.le_of_eq a8)]at t
     go_wp2_with fail
     clear H m
     have ac:=t
     have ad:=g
     clear t g
     go_loopw [3,8] (fun nv iv wr=> ∃(k:Nat),k≤a.frs.n∧iv= .int .i64 k∧wr.ownsRow I.heap.size 9 1 nv (a.cols.n+a.keys.n+k) (cn (s.cols.map Cd.tx++s.keys.map keyT++(s.frs.take k).map Rf.tx))∧Ext I wr) (fun _ i _=>a.frs.n- (intOf i).toNat)
     case atStart=>exact⟨0,Nat.zero_le _,rfl,by simpa using ac.out,ad⟩
     case round=>
      obtain⟨k,a2,rfl,p,m⟩:=hrel
      have t:=hid p
      have g:=hid m
      clear p
      by_cases P:k<a.frs.n
      ·obtain⟨x,D⟩:=aq a9 P
       obtain⟨h0,b,a6,A1,n1,c1,A2,n2,c2,hA,q0,q1,q2,h1,h2,h3,h4,h5,h6⟩:=(b3.ext m) k x D
       have J:Hid (s.cols.map Cd.tx++s.keys.map keyT++(s.frs.take (k+1)).map Rf.tx=(s.cols.map Cd.tx++s.keys.map keyT++(s.frs.take k).map Rf.tx)++ [Rf.tx x]):=by unfold Hid;rw[bW D,List.map_append];exact(List.append_assoc _ _ _).symm
       have a5:=dJ (b6 x (List.mem_of_getElem? D))
       have u:=List.all_eq_true.1 bn x (List.mem_of_getElem? D)
       have cv:bA x.cs≤(cma x.cs).size+2:=fi x.cs
       have a4:bA x.tg≤(cma x.tg).size+2:=fi x.tg
       have c7:x.tb.size≤1000:=Nat.le_trans (rf_nm u) (by omega)
       have a3:x.tx.size=13+(cma x.cs).size+13+x.tb.size+2+(cma x.tg).size+1:=by unfold Rf.tx;simp only[ByteArray.size_append];rfl
       have cz:(cma x.cs).size≤500000000:=by have:=HZ.out;omega
       have cH:(cma x.tg).size≤500000000:=by have:=HZ.out;omega
       have bY:=hid (fun W (hW:Ext wr W)=>fG x.cs A1 n1 c1 W h1 (h3.ext hW) (by omega))
       have b0:=hid (fun W (hW:Ext wr W)=>fG x.tg A2 n2 c2 W h4 (h6.ext hW) (by omega))
       have o:Hid (Rf.tx x=⟨#[70,79,82,69,73,71,78,32,75,69,89,32,40]⟩++cma x.cs++⟨#[41,32,82,69,70,69,82,69,78,67,69,83,32]⟩++x.tb++⟨#[32,40]⟩++cma x.tg++⟨#[41]⟩):=rfl
       clear D m h0 h1 h2 h3 h4 h5 h6 a5 cv a4 a3 u
       generalize cma x.cs=T1 at*
       generalize cma x.tg=T2 at*
       generalize x.tb=tb at*
       subst hA
       have E:=o.out
       clear o
       rw[E]at J
       clear E
       have l:=hid (Blk.of_new wr 103 [.slice A1 n1 c1,.string tb,.slice A2 n2 c2])
       have f:=hid ((Ext.refl wr).alloc (.cells #[.slice A1 n1 c1,.string tb,.slice A2 n2 c2] 103))
       have cc:=hid (ownN_ext t f)
       have b7:=hid (own_ne t)
       have H:=(HB.ext g).cell 2
       simp only[List.getElem?_cons_succ,List.getElem?_cons_zero]at H
       go_wp2_with fail
       generalize wr.alloc (.cells _ 103)=w2 at*
       generalize wr.heap.size=g2 at*
       obtain⟨e0,e1,e2,-⟩:=cls (l)
       go_region_held_law (fun w'=>w'.cell? ⟨g2,0,none⟩=some (.slice A1 n1 c1)∧w'.cell? ⟨g2,1,none⟩=some (.string tb)∧w'.cell? ⟨g2,2,none⟩=some (.slice A2 n2 c2))
        (first|go_keep|exact blk3 (l.ext G)|exact blk3 ((l.ext G).ext Z)|exact blk3 (((l.ext G).ext Z).ext ((Ext.refl _).alloc _))|exact blk3 ((((l.ext G).ext Z).ext ((Ext.refl _).alloc _)).grown h b7))
        (first
         |(go_at_call 87;(with_reducible refine(b0.out _ (f.out.trans G)).mono ?_);rintro _ w4 ⟨rfl,Z⟩)
         |(go_at_call 87;(with_reducible refine(bY.out _ f.out.drew).mono ?_);rintro _ w3 ⟨rfl,G⟩;replace G:Ext w2 w3:=(Ext.refl w2).drew.trans G)
         |(generalize ⟨#[70,79,82,69,73,71,78,32,75,69,89,32,40]⟩++T1++⟨#[41,32,82,69,70,69,82,69,78,67,69,83,32]⟩++tb++⟨#[32,40]⟩++T2++⟨#[41]⟩=V at*;refine dK _ rfl (.tmp 86) (.tmp 101) 101 rfl I.heap.size 9 i0 _ 1 16 Tryz.underlying101 hi Q R U rfl (by decide) _ (a.cols.n+a.keys.n+k) _ rfl ((ownN_ext cc (G.trans Z)).alloc _) _ _ 1 1 [.string V] rfl (reads_new1 w4 _ _) (by simp[Value.oneCell']) (by unfold maxLen;omega) (by omega) (Nat.le_trans (g.trans (f.trans (G.trans Z))).size (by simp)) ?_;intro v1 w5 e h j))
       all_goals
        have B:=hid e
        have y:=hid h
        replace f:=hid (f.trans (G.trans Z))
        rename_i hHeld
        clear hHeld e h j e0 e1 e2
        go_wp2_with fail
        go_roundw
        case rel=>
         have C:=aI t
         refine⟨k+1,by omega,by go_num,?_,((g.trans f).alloc _).grown y fun q X=>C q X⟩
         rw[J.out,aT]
         exact B
        case measure=>simp[intOf];omega
      ·have H:=(HB.ext g).cell 2
       simp only[List.getElem?_cons_succ,List.getElem?_cons_zero]at H
       obtain rfl:k=a.frs.n:=by omega
       rw[List.take_of_length_le (Nat.le_of_eq a9)]at t
       go_wp2_with fail
       clear H m
       have ac:=t
       have ad:=g
       clear t g
       go_loopw [3,10] (fun nv iv wr=> ∃(k:Nat),k≤a.chk.n∧iv= .int .i64 k∧wr.ownsRow I.heap.size 9 1 nv (a.cols.n+a.keys.n+a.frs.n+k) (cn (s.cols.map Cd.tx++s.keys.map keyT++s.frs.map Rf.tx++(s.chk.take k).map ep))∧Ext I wr) (fun _ i _=>a.chk.n- (intOf i).toNat)
       case atStart=>exact⟨0,Nat.zero_le _,rfl,by simpa using ac.out,ad⟩
       case round=>
        obtain⟨k,a2,rfl,p,m⟩:=hrel
        have t:=hid p
        have g:=hid m
        clear p
        by_cases P:k<a.chk.n
        ·obtain⟨x,D⟩:=aq ba P
         obtain⟨b,a6,Ai,ni,ci,hA,q0,q1,q2,q3,q4,q5,q6,q7,h1⟩:=(b4.ext m).get D
         subst hA
         have H:=(HB.ext g).cell 3
         simp only[List.getElem?_cons_succ,List.getElem?_cons_zero]at H
         have J:Hid (s.cols.map Cd.tx++s.keys.map keyT++s.frs.map Rf.tx++(s.chk.take (k+1)).map ep=(s.cols.map Cd.tx++s.keys.map keyT++s.frs.map Rf.tx++(s.chk.take k).map ep)++ [ep x]):=by unfold Hid;rw[bW D,List.map_append];exact(List.append_assoc _ _ _).symm
         have hf:=List.all_eq_true.1 bw x (List.mem_of_getElem? D)
         have cx:=dU (List.mem_of_getElem? D)
         have HE:=hid (fun W (hW:Ext wr W)=>dB x 1 Ai ni ci W (h1.ext hW) hf (by have:=bx.out;omega))
         have cj:(x.tx 1).size≤100000:=by have:=bJ x 1 hf;have:=bx.out;omega
         have o:Hid (ep x=⟨#[67,72,69,67,75,32,40]⟩++x.tx 1++⟨#[41]⟩):=rfl
         clear D m h1 hf cx
         unfold Nd.val at HE
         generalize x.tx 1=T1 at*
         have E:=o.out
         clear o
         rw[E]at J
         clear E
         generalize x.d=d at*
         obtain⟨op,tb,nm,ix,vk,vi,vt⟩:=d
         simp only at*
         go_wp2_with (first|(go_at_call 50;(with_reducible refine(HE.out _ (Ext.refl wr)).mono ?_);rintro _ w2 ⟨rfl,ag⟩;have f:Hid (Ext wr w2):=ag)|(at_builtin;generalize ⟨#[67,72,69,67,75,32,40]⟩++T1++⟨#[41]⟩=V at*;refine wpList_append_any _ rfl (.tmp 110) (.tmp 119) 101 rfl I.heap.size 9 i0 _ 1 16 Tryz.underlying101 hi Q R U rfl (by decide) _ (a.cols.n+a.keys.n+a.frs.n+k) _ rfl ((ownN_ext t.out f.out).alloc _) _ _ 1 1 [.string V] rfl (reads_new1 w2 _ _) (by simp[Value.oneCell']) (by unfold maxLen;omega) (by omega) (Nat.le_trans (g.out.trans f.out).size (by simp)) ?_;intro v1 w5 e h j;have B:=hid e;have y:=hid h;clear e h j))
         go_roundw
         case rel=>
          have C:=aI t
          refine⟨k+1,by omega,by go_num,?_,((g.trans f).alloc _).grown y fun q X=>C q X⟩
          rw[J.out,aT]
          exact B
         case measure=>simp[intOf];omega
        ·have H:=(HB.ext g).cell 3
         simp only[List.getElem?_cons_succ,List.getElem?_cons_zero]at H
         obtain rfl:k=a.chk.n:=by omega
         rw[List.take_of_length_le (Nat.le_of_eq ba)]at t
         have HJ:=hid (cX s.elts _ _ _ wr t (by have:=HZ.out;exact Nat.le_trans this (by omega)))
         go_wp2_with (go_at_call 87;refine HJ.mono ?_;rintro _ w2 ⟨rfl,ag⟩)
         go_ret
         exact⟨rfl,HX.trans (g.trans ag)⟩
end Go.Proofs.YtjigcpfjhfoheaaGreatDoor
