/- Numbers as words, and words joined by blanks: strconv.Itoa, strings.Join, text; the reference's l1Num. No condition. -/
import Derived.Shelf.Strconv.Itoa3
import Derived.Shelf.Strings.OnBuilder
import Derived.Test.YtcgekblpbheikaaGreatDoorQS171
namespace Go.Proofs
open Go.Shelf
shelf_lay LaysM.n171 Nm 171 at Tryz as Tryz.lays171
shelf_lay Lays.n156 Nm 156 at Tryz as Tryz.lays156
end Go.Proofs
namespace Go.Proofs.YtcgekblpbheikaaGreatDoor
open Go.Shelf
set_option maxRecDepth 100000
set_option linter.unusedSimpArgs false
set_option linter.unusedVariables false
theorem extra156:Builder.Extra Tryz.prog Tryz.lays156_ren where
  sizeBuilder:=by kernel_rfl
  liesBuilder:=by kernel_rfl
  t5:=Tryz.underlying5
  a5:=Tryz.isAgg5
  z5:=Tryz.sizeOf5
  v5:=Tryz.zeroValue5
  infoByte:=by kernel_rfl
  cellsByte:=by kernel_rfl
  sizeByte:=by kernel_rfl
  neB5:=by decide
theorem PureP.lib {P:Program} {f:FuncId} {vs:List V} {s:ByteArray} (he:enters P f=true)
    (h:∀ (X:Nat→Prop) (w:World) (args:Array Value),Lo X w [] []→VSs w (owned X [] []) [] vs args.toList→Calls P f args w fun e w'=>e=.returned (.string s)∧Go.RowKit.Below w.heap.size w w'):PureP P f vs (· = .d (.str s)):=by
  refine ⟨he,fun X w φ args hX hs hv=>?_⟩
  have hφ:φ=[]:=List.length_eq_zero_iff.1 hs.len
  subst hφ
  refine (h X w args hX hv).mono ?_
  rintro e w' ⟨rfl,hb⟩
  refine ⟨_,.d (.str s),[],[],rfl,⟨rfl,rfl⟩,HS.nil _ _,by simp [VS,DS],⟨hb.os,hb.tape,hb.output,hb.size,fun g hg _=>hb.block g hg,fun g cs t fr hg=>⟨cs,fr,by rw [hb.block g (Array.getElem?_eq_some_iff.1 hg).1];exact hg,rfl⟩⟩,fun id hid=>absurd hid (by simp),Nat.le_refl _, ?_⟩
  rintro g hg ⟨id,e,es,o,h1,_⟩
  simp at h1
theorem itoa_c (n:Int) (hn:Enc.good n):PureP Tryz.prog 174 [.d (.int .i64 n)] (· = .d (.str (numB n))):=by
  refine PureP.lib (by kernel_rfl) fun X w args hX hv=>?_
  have ha:args=#[.int .i64 n]:=by
    apply Array.ext'
    obtain ⟨v,vs,e1,h1,h2⟩:=hv
    have h1:v=.int .i64 n:=h1
    have h2:vs=[]:=h2
    rw [e1,h1,h2]
  subst ha
  refine (Any.strconv_Itoa Tryz.lays171 n hn.1 hn.2 w hX.tab10).mono ?_
  rintro e w' ⟨rfl,k,os,rfl⟩
  refine ⟨rfl,rfl,rfl,rfl, ?_,fun g hg=>?_⟩
  · show w.heap.size≤(w.heap++os).size
    simp
  · show (w.heap++os)[g]? = _
    rw [Array.getElem?_append_left hg]
noncomputable def K_174:Ent Tryz.prog:=Ent.p1 (α:=Int) 174 (fun n=>Enc.good n) (fun n=>.d (.str (numB n))) (fun n hc=>itoa_c n hc)
theorem K_174_f:K_174.f=174:=rfl
theorem K_174_e (n:Int):K_174.e [.d (.int .i64 n)]=some (Enc.good n,.d (.str (numB n)),[]):=by unfold K_174;exact Ent.p1_eq (α:=Int) n
noncomputable def K_174h:EntH Tryz.prog:=EntH.pk1 (α:=Int) 174 (fun n=>Enc.good n) (fun n=>.d (.str (numB n))) (fun n=>[]) (fun n hc=>PureP.ans (itoa_c n hc))
theorem K_174h_f:K_174h.f=174:=rfl
theorem K_174h_g:K_174h.gro=true:=rfl
theorem K_174h_e {x1:V} {H:Heap}:K_174h.e [x1] H=guardR ((decA (α:=Int) H x1).1) (peekR (Enc.good (decA (α:=Int) H x1).2) (.d (.str (numB (decA (α:=Int) H x1).2))) ([]) H):=rfl
def joinB (ws:List ByteArray):ByteArray:=⟨(Lib.join (ws.map (·.data.toList)) [32]).toArray⟩
def lsB (w:ByteArray):List ByteArray→ByteArray
  | []=>w
  | x :: l=>lsB (w++(⟨#[32]⟩++x)) l
theorem lsB_data:∀ (l:List ByteArray) (w:ByteArray),(lsB w l).data.toList=w.data.toList++(l.map fun x=>32 :: x.data.toList).flatten
  | [],w=>by simp [lsB]
  | x :: l,w=>by
    rw [lsB,lsB_data l]
    simp [ByteArray.data_append,List.append_assoc]
theorem joinB_eq (w:ByteArray) (l:List ByteArray):joinB (w :: l)=lsB w l:=by
  apply ByteArray.ext
  apply Array.ext'
  rw [lsB_data]
  show Lib.join (w.data.toList :: l.map (·.data.toList)) [32]=_
  rw [Lib.join_cons]
  unfold Lib.joinTail
  rw [List.map_map]
  rfl
theorem lsB_size:∀ (l:List ByteArray) (w:ByteArray) (m:Nat),(∀ x∈l,x.size≤m)→(lsB w l).size≤w.size + l.length * (m + 1)
  | [],w,m,h=>by simp [lsB]
  | x :: l,w,m,h=>by
    have h1:=lsB_size l (w++(⟨#[32]⟩++x)) m fun y hy=>h y (List.mem_cons_of_mem _ hy)
    have h2:=h x List.mem_cons_self
    rw [lsB]
    simp only [ByteArray.size_append,List.length_cons,Nat.add_mul] at h1 ⊢
    have:(⟨#[32]⟩:ByteArray).size=1:=rfl
    omega
theorem join_c (ws:List ByteArray) (h0:0 < ws.length) (hl:ws.length≤100000) (hs:(joinB ws).size≤100000000):PureP Tryz.prog 149 [.d (dStrS ws),.d (.str ⟨#[32]⟩)] (· = .d (.str (joinB ws))):=by
  refine PureP.lib (by kernel_rfl) fun X w args hX hv=>?_
  obtain ⟨v,vs,e1,h1,v2,vs2,e2,h2,h3⟩:=hv
  have h1:DS w (owned X [] []) (dStrS ws) v:=h1
  obtain ⟨A,cap,rfl,hcap,hf⟩:=h1
  have h2:v2=.string ⟨#[32]⟩:=h2
  have h3:vs2=[]:=h3
  subst h2 h3
  obtain ⟨a,rfl,_,c,hc,hd⟩:=hf 0 0 h0 (by omega)
  have e0:a.add (0 * 1 + 0)=a:=rfl
  rw [e0] at hc
  have hsp:a.spot=none:=by
    unfold World.cell? at hc
    split at hc
    · split at hc
      · cases hc
      · rename_i q;simpa using q
    · cases hc
  have hbl:a.block < w.heap.size:=by
    unfold World.cell? at hc
    split at hc
    · rename_i q;exact (Array.getElem?_eq_some_iff.1 q).1
    · cases hc
  have hadd:∀ j,a.add (j * 1 + 0)=⟨a.block,a.off + j,none⟩:=fun j=>by
    unfold Addr.add
    split
    · rename_i e
      have:j=0:=by omega
      subst this
      cases a;simp at hsp;subst hsp;rfl
    · simp
  have ha:args=#[.slice (some ⟨a.block,a.off,none⟩) ws.length cap,.string ⟨#[32]⟩]:=by
    apply Array.ext'
    rw [e1,e2]
    have:a=⟨a.block,a.off,none⟩:=by cases a;simp at hsp;subst hsp;rfl
    rw [← this]
  subst ha
  refine (Any.strings_Join Tryz.lays156 extra156 a.block a.off cap ws ⟨#[32]⟩ w (fun j x hj=>?_) hbl (by omega) hcap ?_).mono ?_
  · have hjl:=(List.getElem?_eq_some_iff.1 hj).1
    obtain ⟨a',ea,_,c,hc,hd⟩:=hf j 0 hjl (by omega)
    cases ea
    rw [hadd] at hc
    have hd:c=.string (ws[j]?.getD default):=hd
    rw [hc,hd,hj];rfl
  · have:(joinB ws).size=(Lib.join (ws.map (·.data.toList)) [32]).length:=by show (List.toArray _).size=_;simp
    show (Lib.join (ws.map (·.data.toList)) [32]).length≤_
    omega
  · rintro e w' ⟨rfl,hb⟩
    exact ⟨rfl,hb⟩
noncomputable def K_149:Ent Tryz.prog:=Ent.p2 (α:=List ByteArray) (β:=ByteArray) 149 (fun ws s=>s=⟨#[32]⟩∧0 < ws.length∧ws.length≤100000∧(joinB ws).size≤100000000) (fun ws s=>.d (.str (joinB ws))) (fun ws s hc=>hc.1 ▸ join_c ws hc.2.1 hc.2.2.1 hc.2.2.2)
theorem K_149_f:K_149.f=149:=rfl
theorem K_149_e (ws:List ByteArray) (s:ByteArray):K_149.e [.d (dStrS ws),.d (.str s)]=some (s=⟨#[32]⟩∧0 < ws.length∧ws.length≤100000∧(joinB ws).size≤100000000,.d (.str (joinB ws)),[]):=by unfold K_149;exact Ent.p2_eq (α:=List ByteArray) (β:=ByteArray) ws s
noncomputable def K_149h:EntH Tryz.prog:=EntH.pk2 (α:=List ByteArray) (β:=ByteArray) 149 (fun ws s=>s=⟨#[32]⟩∧0 < ws.length∧ws.length≤100000∧(joinB ws).size≤100000000) (fun ws s=>.d (.str (joinB ws))) (fun ws s=>[]) (fun ws s hc=>PureP.ans (hc.1 ▸ join_c ws hc.2.1 hc.2.2.1 hc.2.2.2))
theorem K_149h_f:K_149h.f=149:=rfl
theorem K_149h_g:K_149h.gro=true:=rfl
theorem K_149h_e {x1 x2:V} {H:Heap}:K_149h.e [x1,x2] H=guardR ((decA (α:=List ByteArray) H x1).1∧(decA (α:=ByteArray) H x2).1) (peekR ((decA (α:=ByteArray) H x2).2=⟨#[32]⟩∧0 < (decA (α:=List ByteArray) H x1).2.length∧(decA (α:=List ByteArray) H x1).2.length≤100000∧(joinB (decA (α:=List ByteArray) H x1).2).size≤100000000) (.d (.str (joinB (decA (α:=List ByteArray) H x1).2))) ([]) H):=rfl
theorem text_c (ws:List ByteArray) (h0:0 < ws.length) (hl:ws.length≤100000) (hs:(joinB ws).size≤100000000):PureP Tryz.prog 74 [.d (dStrS ws)] (· = .d (.str (joinB ws++⟨#[10]⟩))):=by
  refine pure_of Tryz.func74 en_74 rfl rfl (W_run mixed ⟨[K_149],[K_149h],[],6,0,[0,2],[]⟩ (fun _=>[]) (by kernel_rfl) ?_)
  simp only [Tryz.f74,stripX,stripOps,pickOps]
  simp [K_149_f,K_149_e,K_149h_f,K_149h_e,K_149h_g,h0,hl,hs]
  show _ + 1≤_
  omega
noncomputable def K_74:Ent Tryz.prog:=Ent.p1 (α:=List ByteArray) 74 (fun ws=>0 < ws.length∧ws.length≤100000∧(joinB ws).size≤100000000) (fun ws=>.d (.str (joinB ws++(⟨#[10]⟩:ByteArray)))) (fun ws hc=>text_c ws hc.1 hc.2.1 hc.2.2)
theorem K_74_f:K_74.f=74:=rfl
theorem K_74_e (ws:List ByteArray):K_74.e [.d (dStrS ws)]=some (0 < ws.length∧ws.length≤100000∧(joinB ws).size≤100000000,.d (.str (joinB ws++(⟨#[10]⟩:ByteArray))),[]):=by unfold K_74;exact Ent.p1_eq (α:=List ByteArray) ws
noncomputable def K_74h:EntH Tryz.prog:=EntH.pk1 (α:=List ByteArray) 74 (fun ws=>0 < ws.length∧ws.length≤100000∧(joinB ws).size≤100000000) (fun ws=>.d (.str (joinB ws++(⟨#[10]⟩:ByteArray)))) (fun ws=>[]) (fun ws hc=>PureP.ans (text_c ws hc.1 hc.2.1 hc.2.2))
theorem K_74h_f:K_74h.f=74:=rfl
theorem K_74h_g:K_74h.gro=true:=rfl
theorem K_74h_e {x1:V} {H:Heap}:K_74h.e [x1] H=guardR ((decA (α:=List ByteArray) H x1).1) (peekR (0 < (decA (α:=List ByteArray) H x1).2.length∧(decA (α:=List ByteArray) H x1).2.length≤100000∧(joinB (decA (α:=List ByteArray) H x1).2).size≤100000000) (.d (.str (joinB (decA (α:=List ByteArray) H x1).2++(⟨#[10]⟩:ByteArray)))) ([]) H):=rfl
theorem l1Num_c : ∀ (n : Nat), n < 9223372036854775808 → PureP Tryz.prog 69 [.d (.int .i64 (n : Int))] (· = .d (.str (decB n))) := by
  intro n
  induction n using Nat.strongRecOn with
  | ind n ih =>
    intro hn
    by_cases h10:n < 10
    · have c0:((n:Int) < 10)=True:=eq_true (by omega)
      refine pure_of Tryz.func69 en_69 rfl rfl (W_runS mixed [3] ⟨[],[],[69],20,0,[0,2,4],[4]⟩ (fun | 3=>[0,1,3,4,5,6,2,7,8,9,10] | _=>[]) (by kernel_rfl) ?_)
      simp only [Tryz.f69,stripS,skip_cons,skip_nil,Nat.reduceBEq,Bool.or_false,Bool.or_self,Bool.or_true,Bool.true_or,cond_true,cond_false,stripX,stripOps,pickOps]
      simp [c0]
      rw [wrap_id (by omega) (by omega),show IntKind.u8.wrap (48 + (n:Int))=48 + n by rw [IntKind.wrap_u8'];omega,decB_small h10]
      refine ⟨⟨by omega,by omega⟩, ?_⟩
      congr 3
    · have c0:((n:Int) < 10)=False:=eq_false (by omega)
      obtain ⟨KR,KR_f,KR_e⟩:∃ K:Ent Tryz.prog,K.f=69∧∀ a:Int,K.e [.d (.int .i64 a)]=some (0≤a∧a < n,.d (.str (decB a.toNat)),[]) :=
        ⟨Ent.p1 (α:=Int) 69 (fun a=>0≤a∧a < n) (fun a=>.d (.str (decB a.toNat))) (fun a h=>by
          have:=ih a.toNat (by omega) (by omega)
          rw [show ((a.toNat:Nat):Int)=a by omega] at this
          exact this),rfl,fun a=>by exact Ent.p1_eq (α:=Int) a⟩
      refine pure_of Tryz.func69 en_69 rfl rfl (W_run mixed ⟨[KR],[],[2000034],20,0,[0,2,4],[4]⟩ (fun | 3=>[0,1,3,4,5,6,2,7,8,9,10] | _=>[]) (by kernel_rfl) ?_)
      simp only [Tryz.f69,stripX,stripOps,pickOps]
      simp [KR_f,KR_e,c0]
      have e1:(n:Int).tmod 10=((n % 10:Nat):Int):=by rw [Int.tmod_eq_emod_of_nonneg (by omega)];omega
      have e2:IntKind.u8.wrap (IntKind.i64.wrap (48 + (n:Int).tmod 10))=((48 + n % 10:Nat):Int):=by
        rw [e1,wrap_id (by omega) (by omega),IntKind.wrap_u8'];omega
      have e3:IntKind.i64.wrap ((n:Int).tdiv 10)=((n / 10:Nat):Int):=by rw [Int.tdiv_eq_ediv_of_nonneg (by omega),wrap_id (by omega) (by omega)];omega
      have e4:IntKind.i64.wrap ((n:Int) / 10)=((n / 10:Nat):Int):=by rw [wrap_id (by omega) (by omega)];omega
      simp only [e2,e3,e4,Int.toNat_natCast]
      rw [← decB_big h10]
      have hl:=decB_len 19 (n / 10) (by omega)
      refine ⟨⟨by omega,by omega⟩,⟨by omega,by omega⟩, ?_,rfl⟩
      show _ + 1≤_
      omega
theorem l1Num_k (n:Int) (h:0≤n∧n < 9223372036854775808):PureP Tryz.prog 69 [.d (.int .i64 n)] (· = .d (.str (numB n))):=by
  have:=l1Num_c n.toNat (by omega)
  rw [show ((n.toNat:Nat):Int)=n by omega,← numB_pos h.1] at this
  exact this
noncomputable def K_69:Ent Tryz.prog:=Ent.p1 (α:=Int) 69 (fun n=>0≤n∧n < 9223372036854775808) (fun n=>.d (.str (numB n))) (fun n hc=>l1Num_k n hc)
theorem K_69_f:K_69.f=69:=rfl
theorem K_69_e (n:Int):K_69.e [.d (.int .i64 n)]=some (0≤n∧n < 9223372036854775808,.d (.str (numB n)),[]):=by unfold K_69;exact Ent.p1_eq (α:=Int) n
noncomputable def K_69h:EntH Tryz.prog:=EntH.pk1 (α:=Int) 69 (fun n=>0≤n∧n < 9223372036854775808) (fun n=>.d (.str (numB n))) (fun n=>[]) (fun n hc=>PureP.ans (l1Num_k n hc))
theorem K_69h_f:K_69h.f=69:=rfl
theorem K_69h_g:K_69h.gro=true:=rfl
theorem K_69h_e {x1:V} {H:Heap}:K_69h.e [x1] H=guardR ((decA (α:=Int) H x1).1) (peekR (0≤(decA (α:=Int) H x1).2∧(decA (α:=Int) H x1).2 < 9223372036854775808) (.d (.str (numB (decA (α:=Int) H x1).2))) ([]) H):=rfl
end Go.Proofs.YtcgekblpbheikaaGreatDoor
