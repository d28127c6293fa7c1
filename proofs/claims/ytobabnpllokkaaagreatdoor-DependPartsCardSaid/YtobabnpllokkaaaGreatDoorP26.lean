/- Parts. -/
import Derived.Test.YtobabnpllokkaaaGreatDoorP24
import Derived.Test.YtobabnpllokkaaaGreatDoorP25
import Derived.Test.YtobabnpllokkaaaGreatDoorP02
import Derived.Test.YtobabnpllokkaaaGreatDoorP00
set_option linter.unusedSimpArgs false
set_option linter.unusedVariables false
namespace Go.Proofs.YtobabnpllokkaaaGreatDoor
open Go.RowKit Go.WideMaps
def fillF:Nat→FuncId
 | 1 => 40
 | 2 => 41
 | 3 => 42
 | 4 => 43
 | 5 => 44
 | 6 => 45
 | 7 => 46
 | 8 => 47
 | 9 => 48
 | 10 => 49
 | 11 => 50
 | 12 => 51
 | 13 => 52
 | 14 => 53
 | 15 => 54
 | 16 => 55
 | 17 => 56
 | 18 => 57
 | 19 => 58
 | 20 => 59
 | 21 => 60
 | 22 => 61
 | 23 => 62
 | 24 => 63
 | 25 => 64
 | 26 => 65
 | 27 => 66
 | 28 => 67
 | 29 => 68
 | 30 => 69
 | 31 => 70
 | _ => 0
def growF:Nat→FuncId
 | 1 => 133
 | 2 => 134
 | 3 => 135
 | 4 => 136
 | 5 => 137
 | 6 => 138
 | 7 => 139
 | 8 => 140
 | 9 => 141
 | 10 => 142
 | 11 => 143
 | 12 => 144
 | 13 => 145
 | 14 => 146
 | 15 => 147
 | 16 => 148
 | 17 => 149
 | 18 => 150
 | 19 => 151
 | 20 => 152
 | 21 => 153
 | 22 => 154
 | 23 => 155
 | 24 => 156
 | 25 => 157
 | 26 => 158
 | 27 => 159
 | 28 => 160
 | 29 => 161
 | 30 => 162
 | 31 => 163
 | _ => 0
def lookF:Nat→FuncId
 | 1 => 164
 | 2 => 165
 | 3 => 166
 | 4 => 167
 | 5 => 168
 | 6 => 169
 | 7 => 170
 | 8 => 171
 | 9 => 172
 | 10 => 173
 | 11 => 174
 | 12 => 175
 | 13 => 176
 | 14 => 177
 | 15 => 178
 | 16 => 179
 | 17 => 180
 | 18 => 181
 | 19 => 182
 | 20 => 183
 | 21 => 184
 | 22 => 185
 | 23 => 186
 | 24 => 187
 | 25 => 188
 | 26 => 189
 | 27 => 190
 | 28 => 191
 | 29 => 192
 | 30 => 193
 | 31 => 194
 | _ => 0
theorem rangeAt_futQ {w w':World} {b o:Nat} {cs:List Value} (h:w.rangeAt b o cs) (hf:Fut w w'):w'.rangeAt b o cs:=fun j v hj => hf.cell (h j v hj)
theorem fill_nilZ:∀ j,1≤j→j<32→NilB (fillF j) j
 | 1,_,_ => fillValue_nil
 | 2,_,_ => fillTuple_nil
 | 3,_,_ => fillFact_nil
 | 4,_,_ => fillTerm_nil
 | 5,_,_ => fillExpr_nil
 | 6,_,_ => fillLiteral_nil
 | 7,_,_ => fillArg_nil
 | 8,_,_ => fillRule_nil
 | 9,_,_ => fillPair_nil
 | 10,_,_ => fillBind_nil
 | 11,_,_ => fillBindList_nil
 | 12,_,_ => fillText_nil
 | 13,_,_ => fillTextList_nil
 | 14,_,_ => fillInt_nil
 | 15,_,_ => fillRow_nil
 | 16,_,_ => fillToken_nil
 | 17,_,_ => fillPred_nil
 | 18,_,_ => fillType_nil
 | 19,_,_ => fillSig_nil
 | 20,_,_ => fillEdge_nil
 | 21,_,_ => fillLevel_nil
 | 22,_,_ => fillMask_nil
 | 23,_,_ => fillStep_nil
 | 24,_,_ => fillRanked_nil
 | 25,_,_ => fillAdorned_nil
 | 26,_,_ => fillTable_nil
 | 27,_,_ => fillProof_nil
 | 28,_,_ => fillSize_nil
 | 29,_,_ => fillFloat_nil
 | 30,_,_ => fillCommit_nil
 | 31,_,_ => fillEvent_nil
 | 0,h,_ => absurd h (by decide)
 | n+32,_,h => absurd h (by omega)
theorem grow_nilZ:∀ j,1≤j→j<32→NilB (growF j) j
 | 1,_,_ => growValue_nil
 | 2,_,_ => growTuple_nil
 | 3,_,_ => growFact_nil
 | 4,_,_ => growTerm_nil
 | 5,_,_ => growExpr_nil
 | 6,_,_ => growLiteral_nil
 | 7,_,_ => growArg_nil
 | 8,_,_ => growRule_nil
 | 9,_,_ => growPair_nil
 | 10,_,_ => growBind_nil
 | 11,_,_ => growBindList_nil
 | 12,_,_ => growText_nil
 | 13,_,_ => growTextList_nil
 | 14,_,_ => growInt_nil
 | 15,_,_ => growRow_nil
 | 16,_,_ => growToken_nil
 | 17,_,_ => growPred_nil
 | 18,_,_ => growType_nil
 | 19,_,_ => growSig_nil
 | 20,_,_ => growEdge_nil
 | 21,_,_ => growLevel_nil
 | 22,_,_ => growMask_nil
 | 23,_,_ => growStep_nil
 | 24,_,_ => growRanked_nil
 | 25,_,_ => growAdorned_nil
 | 26,_,_ => growTable_nil
 | 27,_,_ => growProof_nil
 | 28,_,_ => growSize_nil
 | 29,_,_ => growFloat_nil
 | 30,_,_ => growCommit_nil
 | 31,_,_ => growEvent_nil
 | 0,h,_ => absurd h (by decide)
 | n+32,_,h => absurd h (by omega)
theorem look_nilZ:∀ j,1≤j→j<32→NilL (lookF j) j
 | 1,_,_ => lookValue_nil
 | 2,_,_ => lookTuple_nil
 | 3,_,_ => lookFact_nil
 | 4,_,_ => lookTerm_nil
 | 5,_,_ => lookExpr_nil
 | 6,_,_ => lookLiteral_nil
 | 7,_,_ => lookArg_nil
 | 8,_,_ => lookRule_nil
 | 9,_,_ => lookPair_nil
 | 10,_,_ => lookBind_nil
 | 11,_,_ => lookBindList_nil
 | 12,_,_ => lookText_nil
 | 13,_,_ => lookTextList_nil
 | 14,_,_ => lookInt_nil
 | 15,_,_ => lookRow_nil
 | 16,_,_ => lookToken_nil
 | 17,_,_ => lookPred_nil
 | 18,_,_ => lookType_nil
 | 19,_,_ => lookSig_nil
 | 20,_,_ => lookEdge_nil
 | 21,_,_ => lookLevel_nil
 | 22,_,_ => lookMask_nil
 | 23,_,_ => lookStep_nil
 | 24,_,_ => lookRanked_nil
 | 25,_,_ => lookAdorned_nil
 | 26,_,_ => lookTable_nil
 | 27,_,_ => lookProof_nil
 | 28,_,_ => lookSize_nil
 | 29,_,_ => lookFloat_nil
 | 30,_,_ => lookCommit_nil
 | 31,_,_ => lookEvent_nil
 | 0,h,_ => absurd h (by decide)
 | n+32,_,h => absurd h (by omega)
theorem fillAt_nil {PW:World→Prop} {NB:Nat} (K:Kd) {j:Nat} (h1:1≤j) (h2:j<32):FillAt Tryz.prog PW NB (fillF j) j K []:=fun hc hv hH hL _ _ _ _ => by
 rw [hv rfl] at hc;refine (fill_nilZ j h1 h2 hc).mono ?_;rintro e w' ⟨hu,rfl⟩;exact ⟨hu,⟨fun i h hi => by simp at hi,fun i j h k hi => by simp at hi⟩,Only.refl _⟩
theorem growAt_nil {PW:World→Prop} {NB:Nat} (K:Kd) {j:Nat} (h1:1≤j) (h2:j<32):GrowAt Tryz.prog PW NB (growF j) j K []:=fun hc hv hH hL _ _ _ _ _ _ _ => by
 rw [hv rfl] at hc;refine (grow_nilZ j h1 h2 hc).mono ?_;rintro e w' ⟨hu,rfl⟩;exact ⟨hu,[],hH,rfl,fun _ _ => rfl,fun i h hi => by simp at hi,fun i h _ hi => by simp at hi,Only.refl _⟩
theorem lookAt_nil {PW:World→Prop} (K:Kd) {j:Nat} (h1:1≤j) (h2:j<32):LookAt Tryz.prog PW (lookF j) j K []:=fun hc hv _ _ _ _ _ _ => by
 rw [hv rfl] at hc;refine (look_nilZ j h1 h2 hc).mono ?_;rintro e w' ⟨he,rfl⟩;exact ⟨he,Fut.refl _⟩
section
variable {T:Nat→Kd} {NB B:Nat} {w w':World} {b:Nat} {n:Int} {vs:Nat→Value} {hs hs':Nat→List Hd} {g:Nat→Nat→List (Option Int)} {ns:Nat→Nat→Nat} {PW:World→Prop}
set_option maxHeartbeats 1600000 in
set_option maxRecDepth 100000 in
theorem lookOneA_any (h:GwSt 65 T NB B w b n vs hs ns 32 hs') (hK:Kinds 65 T NB) (hL:∀ j,1≤j→j<32→LookAt Tryz.prog PW (lookF j) j (T j) (hs j)) (hbd:∀ j,1≤j→j<32→∀ i,i<(hs j).length→ns j i+70≤(T j).bd) (hP:∀ W,Fut w W→PW W) {W:World} (hW:Fut w W) :
    Calls Tryz.prog 72 #[.pointer (some ⟨b,0,none⟩)] W fun e w' => e = .returned (.bool true)∧Fut W w':=by
 have H:=Hh h;have HK:=Hh hK;have HL:=Hh hL;have HD:=Hh hbd;have HP:=Hh hP;have HW:=Hh hW;have F0:=Hh (Fut.refl W);clear h hK hL hbd hP hW;go_enter Tryz.func72,Tryz.ntmps72;go_wp2_with fail;refine (H.out.lookJ HK.out (by decide) (by decide) (HL.out 1 (by decide) (by decide)) (HD.out 1 (by decide) (by decide)) HP.out (HW.out.trans F0.out)).mono ?_;rintro e w1 ⟨rfl,f1⟩;have F1:=Hh (F0.out.trans f1);clear f1;go_wp2_with fail;refine (H.out.lookJ HK.out (by decide) (by decide) (HL.out 2 (by decide) (by decide)) (HD.out 2 (by decide) (by decide)) HP.out (HW.out.trans F1.out)).mono ?_;rintro e w2 ⟨rfl,f2⟩;have F2:=Hh (F1.out.trans f2);clear f2;go_wp2_with fail;refine (H.out.lookJ HK.out (by decide) (by decide) (HL.out 3 (by decide) (by decide)) (HD.out 3 (by decide) (by decide)) HP.out (HW.out.trans F2.out)).mono ?_;rintro e w3 ⟨rfl,f3⟩;have F3:=Hh (F2.out.trans f3);clear f3;go_wp2_with fail;refine (H.out.lookJ HK.out (by decide) (by decide) (HL.out 4 (by decide) (by decide)) (HD.out 4 (by decide) (by decide)) HP.out (HW.out.trans F3.out)).mono ?_;rintro e w4 ⟨rfl,f4⟩;have F4:=Hh (F3.out.trans f4);clear f4;go_wp2_with fail;refine (H.out.lookJ HK.out (by decide) (by decide) (HL.out 5 (by decide) (by decide)) (HD.out 5 (by decide) (by decide)) HP.out (HW.out.trans F4.out)).mono ?_;rintro e w5 ⟨rfl,f5⟩;have F5:=Hh (F4.out.trans f5);clear f5;go_wp2_with fail;refine (H.out.lookJ HK.out (by decide) (by decide) (HL.out 6 (by decide) (by decide)) (HD.out 6 (by decide) (by decide)) HP.out (HW.out.trans F5.out)).mono ?_;rintro e w6 ⟨rfl,f6⟩;have F6:=Hh (F5.out.trans f6);clear f6;go_wp2_with fail;refine (H.out.lookJ HK.out (by decide) (by decide) (HL.out 7 (by decide) (by decide)) (HD.out 7 (by decide) (by decide)) HP.out (HW.out.trans F6.out)).mono ?_;rintro e w7 ⟨rfl,f7⟩;have F7:=Hh (F6.out.trans f7);clear f7;go_wp2_with fail;refine (H.out.lookJ HK.out (by decide) (by decide) (HL.out 8 (by decide) (by decide)) (HD.out 8 (by decide) (by decide)) HP.out (HW.out.trans F7.out)).mono ?_;rintro e w8 ⟨rfl,f8⟩;have F8:=Hh (F7.out.trans f8);clear f8;go_wp2_with fail;refine (H.out.lookJ HK.out (by decide) (by decide) (HL.out 9 (by decide) (by decide)) (HD.out 9 (by decide) (by decide)) HP.out (HW.out.trans F8.out)).mono ?_;rintro e w9 ⟨rfl,f9⟩;have F9:=Hh (F8.out.trans f9);clear f9;go_wp2_with fail;refine (H.out.lookJ HK.out (by decide) (by decide) (HL.out 10 (by decide) (by decide)) (HD.out 10 (by decide) (by decide)) HP.out (HW.out.trans F9.out)).mono ?_;rintro e w10 ⟨rfl,f10⟩;have F10:=Hh (F9.out.trans f10);clear f10;go_wp2_with fail;refine (H.out.lookJ HK.out (by decide) (by decide) (HL.out 11 (by decide) (by decide)) (HD.out 11 (by decide) (by decide)) HP.out (HW.out.trans F10.out)).mono ?_;rintro e w11 ⟨rfl,f11⟩;have F11:=Hh (F10.out.trans f11);clear f11;go_wp2_with fail;refine (H.out.lookJ HK.out (by decide) (by decide) (HL.out 12 (by decide) (by decide)) (HD.out 12 (by decide) (by decide)) HP.out (HW.out.trans F11.out)).mono ?_;rintro e w12 ⟨rfl,f12⟩;have F12:=Hh (F11.out.trans f12);clear f12;go_wp2_with fail;refine (H.out.lookJ HK.out (by decide) (by decide) (HL.out 13 (by decide) (by decide)) (HD.out 13 (by decide) (by decide)) HP.out (HW.out.trans F12.out)).mono ?_;rintro e w13 ⟨rfl,f13⟩;have F13:=Hh (F12.out.trans f13);clear f13;go_wp2_with fail;refine (H.out.lookJ HK.out (by decide) (by decide) (HL.out 14 (by decide) (by decide)) (HD.out 14 (by decide) (by decide)) HP.out (HW.out.trans F13.out)).mono ?_;rintro e w14 ⟨rfl,f14⟩;have F14:=Hh (F13.out.trans f14);clear f14;go_wp2_with fail;refine (H.out.lookJ HK.out (by decide) (by decide) (HL.out 15 (by decide) (by decide)) (HD.out 15 (by decide) (by decide)) HP.out (HW.out.trans F14.out)).mono ?_;rintro e w15 ⟨rfl,f15⟩;have F15:=Hh (F14.out.trans f15);clear f15;go_wp2_with fail;refine (H.out.lookJ HK.out (by decide) (by decide) (HL.out 16 (by decide) (by decide)) (HD.out 16 (by decide) (by decide)) HP.out (HW.out.trans F15.out)).mono ?_;rintro e w16 ⟨rfl,f16⟩;have F16:=Hh (F15.out.trans f16);clear f16;go_wp2;go_ret;exact ⟨rfl,F16.out⟩
set_option maxHeartbeats 1600000 in
set_option maxRecDepth 100000 in
theorem lookTwoA_any (h:GwSt 65 T NB B w b n vs hs ns 32 hs') (hK:Kinds 65 T NB) (hL:∀ j,1≤j→j<32→LookAt Tryz.prog PW (lookF j) j (T j) (hs j)) (hbd:∀ j,1≤j→j<32→∀ i,i<(hs j).length→ns j i+70≤(T j).bd) (hP:∀ W,Fut w W→PW W) {W:World} (hW:Fut w W) :
    Calls Tryz.prog 73 #[.pointer (some ⟨b,0,none⟩)] W fun e w' => e = .returned (.bool true)∧Fut W w':=by
 have H:=Hh h;have HK:=Hh hK;have HL:=Hh hL;have HD:=Hh hbd;have HP:=Hh hP;have HW:=Hh hW;have F0:=Hh (Fut.refl W);clear h hK hL hbd hP hW;go_enter Tryz.func73,Tryz.ntmps73;go_wp2_with fail;refine (H.out.lookJ HK.out (by decide) (by decide) (HL.out 17 (by decide) (by decide)) (HD.out 17 (by decide) (by decide)) HP.out (HW.out.trans F0.out)).mono ?_;rintro e w1 ⟨rfl,f1⟩;have F1:=Hh (F0.out.trans f1);clear f1;go_wp2_with fail;refine (H.out.lookJ HK.out (by decide) (by decide) (HL.out 18 (by decide) (by decide)) (HD.out 18 (by decide) (by decide)) HP.out (HW.out.trans F1.out)).mono ?_;rintro e w2 ⟨rfl,f2⟩;have F2:=Hh (F1.out.trans f2);clear f2;go_wp2_with fail;refine (H.out.lookJ HK.out (by decide) (by decide) (HL.out 19 (by decide) (by decide)) (HD.out 19 (by decide) (by decide)) HP.out (HW.out.trans F2.out)).mono ?_;rintro e w3 ⟨rfl,f3⟩;have F3:=Hh (F2.out.trans f3);clear f3;go_wp2_with fail;refine (H.out.lookJ HK.out (by decide) (by decide) (HL.out 20 (by decide) (by decide)) (HD.out 20 (by decide) (by decide)) HP.out (HW.out.trans F3.out)).mono ?_;rintro e w4 ⟨rfl,f4⟩;have F4:=Hh (F3.out.trans f4);clear f4;go_wp2_with fail;refine (H.out.lookJ HK.out (by decide) (by decide) (HL.out 21 (by decide) (by decide)) (HD.out 21 (by decide) (by decide)) HP.out (HW.out.trans F4.out)).mono ?_;rintro e w5 ⟨rfl,f5⟩;have F5:=Hh (F4.out.trans f5);clear f5;go_wp2_with fail;refine (H.out.lookJ HK.out (by decide) (by decide) (HL.out 22 (by decide) (by decide)) (HD.out 22 (by decide) (by decide)) HP.out (HW.out.trans F5.out)).mono ?_;rintro e w6 ⟨rfl,f6⟩;have F6:=Hh (F5.out.trans f6);clear f6;go_wp2_with fail;refine (H.out.lookJ HK.out (by decide) (by decide) (HL.out 23 (by decide) (by decide)) (HD.out 23 (by decide) (by decide)) HP.out (HW.out.trans F6.out)).mono ?_;rintro e w7 ⟨rfl,f7⟩;have F7:=Hh (F6.out.trans f7);clear f7;go_wp2_with fail;refine (H.out.lookJ HK.out (by decide) (by decide) (HL.out 24 (by decide) (by decide)) (HD.out 24 (by decide) (by decide)) HP.out (HW.out.trans F7.out)).mono ?_;rintro e w8 ⟨rfl,f8⟩;have F8:=Hh (F7.out.trans f8);clear f8;go_wp2_with fail;refine (H.out.lookJ HK.out (by decide) (by decide) (HL.out 25 (by decide) (by decide)) (HD.out 25 (by decide) (by decide)) HP.out (HW.out.trans F8.out)).mono ?_;rintro e w9 ⟨rfl,f9⟩;have F9:=Hh (F8.out.trans f9);clear f9;go_wp2_with fail;refine (H.out.lookJ HK.out (by decide) (by decide) (HL.out 26 (by decide) (by decide)) (HD.out 26 (by decide) (by decide)) HP.out (HW.out.trans F9.out)).mono ?_;rintro e w10 ⟨rfl,f10⟩;have F10:=Hh (F9.out.trans f10);clear f10;go_wp2_with fail;refine (H.out.lookJ HK.out (by decide) (by decide) (HL.out 27 (by decide) (by decide)) (HD.out 27 (by decide) (by decide)) HP.out (HW.out.trans F10.out)).mono ?_;rintro e w11 ⟨rfl,f11⟩;have F11:=Hh (F10.out.trans f11);clear f11;go_wp2_with fail;refine (H.out.lookJ HK.out (by decide) (by decide) (HL.out 28 (by decide) (by decide)) (HD.out 28 (by decide) (by decide)) HP.out (HW.out.trans F11.out)).mono ?_;rintro e w12 ⟨rfl,f12⟩;have F12:=Hh (F11.out.trans f12);clear f12;go_wp2_with fail;refine (H.out.lookJ HK.out (by decide) (by decide) (HL.out 29 (by decide) (by decide)) (HD.out 29 (by decide) (by decide)) HP.out (HW.out.trans F12.out)).mono ?_;rintro e w13 ⟨rfl,f13⟩;have F13:=Hh (F12.out.trans f13);clear f13;go_wp2_with fail;refine (H.out.lookJ HK.out (by decide) (by decide) (HL.out 30 (by decide) (by decide)) (HD.out 30 (by decide) (by decide)) HP.out (HW.out.trans F13.out)).mono ?_;rintro e w14 ⟨rfl,f14⟩;have F14:=Hh (F13.out.trans f14);clear f14;go_wp2_with fail;refine (H.out.lookJ HK.out (by decide) (by decide) (HL.out 31 (by decide) (by decide)) (HD.out 31 (by decide) (by decide)) HP.out (HW.out.trans F14.out)).mono ?_;rintro e w15 ⟨rfl,f15⟩;have F15:=Hh (F14.out.trans f15);clear f15;go_wp2;go_ret;exact ⟨rfl,F15.out⟩
set_option maxHeartbeats 1600000 in
set_option maxRecDepth 100000 in
theorem growAllA_any (h:GwSt 65 T NB B w b n vs hs ns 1 hs') (hK:Kinds 65 T NB) (hG:∀ j,1≤j→j<32→GrowAt Tryz.prog PW NB (growF j) j (T j) (hs j)) (hbd:∀ j,1≤j→j<32→∀ i,i<(hs j).length→ns j i+70≤(T j).bd) (hP:∀ W,Only (fun k => B≤k) w W→PW W) :
    Calls Tryz.prog 71 #[.pointer (some ⟨b,0,none⟩)] w fun e w' => (∃ u,e = .returned u)∧(∃ hs'',GwSt 65 T NB B w' b n vs hs ns 32 hs'')∧Only (fun k => B≤k) w w'∧Only (ownsA vs hs) w w':=by
 have G0:=Hh h;have HK:=Hh hK;have HG:=Hh hG;have HD:=Hh hbd;have O0:=Hh (Only.refl (S:=fun k => B≤k) w);have Q0:=Hh (Only.refl (S:=ownsA vs hs) w);have HP:=Hh hP;clear h hK hG hbd hP;go_enter Tryz.func71,Tryz.ntmps71;go_wp2_with fail;refine (G0.out.growJ HK.out (by decide) (by decide) (HG.out 1 (by decide) (by decide)) (HD.out 1 (by decide) (by decide)) (fun W hW => HP.out W (O0.out.trans hW))).mono ?_;rintro e w1 ⟨⟨u,rfl⟩,⟨hs1,g1⟩,o1,q1⟩;have G1:=Hh g1;have O1:=Hh (O0.out.trans o1);have Q1:=Hh (Q0.out.trans q1);clear g1 o1 q1 G0 O0 Q0;go_wp2_with fail;refine (G1.out.growJ HK.out (by decide) (by decide) (HG.out 2 (by decide) (by decide)) (HD.out 2 (by decide) (by decide)) (fun W hW => HP.out W (O1.out.trans hW))).mono ?_;rintro e w2 ⟨⟨u,rfl⟩,⟨hs2,g2⟩,o2,q2⟩;have G2:=Hh g2;have O2:=Hh (O1.out.trans o2);have Q2:=Hh (Q1.out.trans q2);clear g2 o2 q2 G1 O1 Q1;go_wp2_with fail;refine (G2.out.growJ HK.out (by decide) (by decide) (HG.out 3 (by decide) (by decide)) (HD.out 3 (by decide) (by decide)) (fun W hW => HP.out W (O2.out.trans hW))).mono ?_;rintro e w3 ⟨⟨u,rfl⟩,⟨hs3,g3⟩,o3,q3⟩;have G3:=Hh g3;have O3:=Hh (O2.out.trans o3);have Q3:=Hh (Q2.out.trans q3);clear g3 o3 q3 G2 O2 Q2;go_wp2_with fail;refine (G3.out.growJ HK.out (by decide) (by decide) (HG.out 4 (by decide) (by decide)) (HD.out 4 (by decide) (by decide)) (fun W hW => HP.out W (O3.out.trans hW))).mono ?_;rintro e w4 ⟨⟨u,rfl⟩,⟨hs4,g4⟩,o4,q4⟩;have G4:=Hh g4;have O4:=Hh (O3.out.trans o4);have Q4:=Hh (Q3.out.trans q4);clear g4 o4 q4 G3 O3 Q3;go_wp2_with fail;refine (G4.out.growJ HK.out (by decide) (by decide) (HG.out 5 (by decide) (by decide)) (HD.out 5 (by decide) (by decide)) (fun W hW => HP.out W (O4.out.trans hW))).mono ?_;rintro e w5 ⟨⟨u,rfl⟩,⟨hs5,g5⟩,o5,q5⟩;have G5:=Hh g5;have O5:=Hh (O4.out.trans o5);have Q5:=Hh (Q4.out.trans q5);clear g5 o5 q5 G4 O4 Q4;go_wp2_with fail;refine (G5.out.growJ HK.out (by decide) (by decide) (HG.out 6 (by decide) (by decide)) (HD.out 6 (by decide) (by decide)) (fun W hW => HP.out W (O5.out.trans hW))).mono ?_;rintro e w6 ⟨⟨u,rfl⟩,⟨hs6,g6⟩,o6,q6⟩;have G6:=Hh g6;have O6:=Hh (O5.out.trans o6);have Q6:=Hh (Q5.out.trans q6);clear g6 o6 q6 G5 O5 Q5;go_wp2_with fail;refine (G6.out.growJ HK.out (by decide) (by decide) (HG.out 7 (by decide) (by decide)) (HD.out 7 (by decide) (by decide)) (fun W hW => HP.out W (O6.out.trans hW))).mono ?_;rintro e w7 ⟨⟨u,rfl⟩,⟨hs7,g7⟩,o7,q7⟩;have G7:=Hh g7;have O7:=Hh (O6.out.trans o7);have Q7:=Hh (Q6.out.trans q7);clear g7 o7 q7 G6 O6 Q6;go_wp2_with fail;refine (G7.out.growJ HK.out (by decide) (by decide) (HG.out 8 (by decide) (by decide)) (HD.out 8 (by decide) (by decide)) (fun W hW => HP.out W (O7.out.trans hW))).mono ?_;rintro e w8 ⟨⟨u,rfl⟩,⟨hs8,g8⟩,o8,q8⟩;have G8:=Hh g8;have O8:=Hh (O7.out.trans o8);have Q8:=Hh (Q7.out.trans q8);clear g8 o8 q8 G7 O7 Q7;go_wp2_with fail;refine (G8.out.growJ HK.out (by decide) (by decide) (HG.out 9 (by decide) (by decide)) (HD.out 9 (by decide) (by decide)) (fun W hW => HP.out W (O8.out.trans hW))).mono ?_;rintro e w9 ⟨⟨u,rfl⟩,⟨hs9,g9⟩,o9,q9⟩;have G9:=Hh g9;have O9:=Hh (O8.out.trans o9);have Q9:=Hh (Q8.out.trans q9);clear g9 o9 q9 G8 O8 Q8;go_wp2_with fail;refine (G9.out.growJ HK.out (by decide) (by decide) (HG.out 10 (by decide) (by decide)) (HD.out 10 (by decide) (by decide)) (fun W hW => HP.out W (O9.out.trans hW))).mono ?_;rintro e w10 ⟨⟨u,rfl⟩,⟨hs10,g10⟩,o10,q10⟩;have G10:=Hh g10;have O10:=Hh (O9.out.trans o10);have Q10:=Hh (Q9.out.trans q10);clear g10 o10 q10 G9 O9 Q9;go_wp2_with fail;refine (G10.out.growJ HK.out (by decide) (by decide) (HG.out 11 (by decide) (by decide)) (HD.out 11 (by decide) (by decide)) (fun W hW => HP.out W (O10.out.trans hW))).mono ?_;rintro e w11 ⟨⟨u,rfl⟩,⟨hs11,g11⟩,o11,q11⟩;have G11:=Hh g11;have O11:=Hh (O10.out.trans o11);have Q11:=Hh (Q10.out.trans q11);clear g11 o11 q11 G10 O10 Q10;go_wp2_with fail;refine (G11.out.growJ HK.out (by decide) (by decide) (HG.out 12 (by decide) (by decide)) (HD.out 12 (by decide) (by decide)) (fun W hW => HP.out W (O11.out.trans hW))).mono ?_;rintro e w12 ⟨⟨u,rfl⟩,⟨hs12,g12⟩,o12,q12⟩;have G12:=Hh g12;have O12:=Hh (O11.out.trans o12);have Q12:=Hh (Q11.out.trans q12);clear g12 o12 q12 G11 O11 Q11;go_wp2_with fail;refine (G12.out.growJ HK.out (by decide) (by decide) (HG.out 13 (by decide) (by decide)) (HD.out 13 (by decide) (by decide)) (fun W hW => HP.out W (O12.out.trans hW))).mono ?_;rintro e w13 ⟨⟨u,rfl⟩,⟨hs13,g13⟩,o13,q13⟩;have G13:=Hh g13;have O13:=Hh (O12.out.trans o13);have Q13:=Hh (Q12.out.trans q13);clear g13 o13 q13 G12 O12 Q12;go_wp2_with fail;refine (G13.out.growJ HK.out (by decide) (by decide) (HG.out 14 (by decide) (by decide)) (HD.out 14 (by decide) (by decide)) (fun W hW => HP.out W (O13.out.trans hW))).mono ?_;rintro e w14 ⟨⟨u,rfl⟩,⟨hs14,g14⟩,o14,q14⟩;have G14:=Hh g14;have O14:=Hh (O13.out.trans o14);have Q14:=Hh (Q13.out.trans q14);clear g14 o14 q14 G13 O13 Q13;go_wp2_with fail;refine (G14.out.growJ HK.out (by decide) (by decide) (HG.out 15 (by decide) (by decide)) (HD.out 15 (by decide) (by decide)) (fun W hW => HP.out W (O14.out.trans hW))).mono ?_;rintro e w15 ⟨⟨u,rfl⟩,⟨hs15,g15⟩,o15,q15⟩;have G15:=Hh g15;have O15:=Hh (O14.out.trans o15);have Q15:=Hh (Q14.out.trans q15);clear g15 o15 q15 G14 O14 Q14;go_wp2_with fail;refine (G15.out.growJ HK.out (by decide) (by decide) (HG.out 16 (by decide) (by decide)) (HD.out 16 (by decide) (by decide)) (fun W hW => HP.out W (O15.out.trans hW))).mono ?_;rintro e w16 ⟨⟨u,rfl⟩,⟨hs16,g16⟩,o16,q16⟩;have G16:=Hh g16;have O16:=Hh (O15.out.trans o16);have Q16:=Hh (Q15.out.trans q16);clear g16 o16 q16 G15 O15 Q15;go_wp2_with fail;refine (G16.out.growJ HK.out (by decide) (by decide) (HG.out 17 (by decide) (by decide)) (HD.out 17 (by decide) (by decide)) (fun W hW => HP.out W (O16.out.trans hW))).mono ?_;rintro e w17 ⟨⟨u,rfl⟩,⟨hs17,g17⟩,o17,q17⟩;have G17:=Hh g17;have O17:=Hh (O16.out.trans o17);have Q17:=Hh (Q16.out.trans q17);clear g17 o17 q17 G16 O16 Q16;go_wp2_with fail;refine (G17.out.growJ HK.out (by decide) (by decide) (HG.out 18 (by decide) (by decide)) (HD.out 18 (by decide) (by decide)) (fun W hW => HP.out W (O17.out.trans hW))).mono ?_;rintro e w18 ⟨⟨u,rfl⟩,⟨hs18,g18⟩,o18,q18⟩;have G18:=Hh g18;have O18:=Hh (O17.out.trans o18);have Q18:=Hh (Q17.out.trans q18);clear g18 o18 q18 G17 O17 Q17;go_wp2_with fail;refine (G18.out.growJ HK.out (by decide) (by decide) (HG.out 19 (by decide) (by decide)) (HD.out 19 (by decide) (by decide)) (fun W hW => HP.out W (O18.out.trans hW))).mono ?_;rintro e w19 ⟨⟨u,rfl⟩,⟨hs19,g19⟩,o19,q19⟩;have G19:=Hh g19;have O19:=Hh (O18.out.trans o19);have Q19:=Hh (Q18.out.trans q19);clear g19 o19 q19 G18 O18 Q18;go_wp2_with fail;refine (G19.out.growJ HK.out (by decide) (by decide) (HG.out 20 (by decide) (by decide)) (HD.out 20 (by decide) (by decide)) (fun W hW => HP.out W (O19.out.trans hW))).mono ?_;rintro e w20 ⟨⟨u,rfl⟩,⟨hs20,g20⟩,o20,q20⟩;have G20:=Hh g20;have O20:=Hh (O19.out.trans o20);have Q20:=Hh (Q19.out.trans q20);clear g20 o20 q20 G19 O19 Q19;go_wp2_with fail;refine (G20.out.growJ HK.out (by decide) (by decide) (HG.out 21 (by decide) (by decide)) (HD.out 21 (by decide) (by decide)) (fun W hW => HP.out W (O20.out.trans hW))).mono ?_;rintro e w21 ⟨⟨u,rfl⟩,⟨hs21,g21⟩,o21,q21⟩;have G21:=Hh g21;have O21:=Hh (O20.out.trans o21);have Q21:=Hh (Q20.out.trans q21);clear g21 o21 q21 G20 O20 Q20;go_wp2_with fail;refine (G21.out.growJ HK.out (by decide) (by decide) (HG.out 22 (by decide) (by decide)) (HD.out 22 (by decide) (by decide)) (fun W hW => HP.out W (O21.out.trans hW))).mono ?_;rintro e w22 ⟨⟨u,rfl⟩,⟨hs22,g22⟩,o22,q22⟩;have G22:=Hh g22;have O22:=Hh (O21.out.trans o22);have Q22:=Hh (Q21.out.trans q22);clear g22 o22 q22 G21 O21 Q21;go_wp2_with fail;refine (G22.out.growJ HK.out (by decide) (by decide) (HG.out 23 (by decide) (by decide)) (HD.out 23 (by decide) (by decide)) (fun W hW => HP.out W (O22.out.trans hW))).mono ?_;rintro e w23 ⟨⟨u,rfl⟩,⟨hs23,g23⟩,o23,q23⟩;have G23:=Hh g23;have O23:=Hh (O22.out.trans o23);have Q23:=Hh (Q22.out.trans q23);clear g23 o23 q23 G22 O22 Q22;go_wp2_with fail;refine (G23.out.growJ HK.out (by decide) (by decide) (HG.out 24 (by decide) (by decide)) (HD.out 24 (by decide) (by decide)) (fun W hW => HP.out W (O23.out.trans hW))).mono ?_;rintro e w24 ⟨⟨u,rfl⟩,⟨hs24,g24⟩,o24,q24⟩;have G24:=Hh g24;have O24:=Hh (O23.out.trans o24);have Q24:=Hh (Q23.out.trans q24);clear g24 o24 q24 G23 O23 Q23;go_wp2_with fail;refine (G24.out.growJ HK.out (by decide) (by decide) (HG.out 25 (by decide) (by decide)) (HD.out 25 (by decide) (by decide)) (fun W hW => HP.out W (O24.out.trans hW))).mono ?_;rintro e w25 ⟨⟨u,rfl⟩,⟨hs25,g25⟩,o25,q25⟩;have G25:=Hh g25;have O25:=Hh (O24.out.trans o25);have Q25:=Hh (Q24.out.trans q25);clear g25 o25 q25 G24 O24 Q24;go_wp2_with fail;refine (G25.out.growJ HK.out (by decide) (by decide) (HG.out 26 (by decide) (by decide)) (HD.out 26 (by decide) (by decide)) (fun W hW => HP.out W (O25.out.trans hW))).mono ?_;rintro e w26 ⟨⟨u,rfl⟩,⟨hs26,g26⟩,o26,q26⟩;have G26:=Hh g26;have O26:=Hh (O25.out.trans o26);have Q26:=Hh (Q25.out.trans q26);clear g26 o26 q26 G25 O25 Q25;go_wp2_with fail;refine (G26.out.growJ HK.out (by decide) (by decide) (HG.out 27 (by decide) (by decide)) (HD.out 27 (by decide) (by decide)) (fun W hW => HP.out W (O26.out.trans hW))).mono ?_;rintro e w27 ⟨⟨u,rfl⟩,⟨hs27,g27⟩,o27,q27⟩;have G27:=Hh g27;have O27:=Hh (O26.out.trans o27);have Q27:=Hh (Q26.out.trans q27);clear g27 o27 q27 G26 O26 Q26;go_wp2_with fail;refine (G27.out.growJ HK.out (by decide) (by decide) (HG.out 28 (by decide) (by decide)) (HD.out 28 (by decide) (by decide)) (fun W hW => HP.out W (O27.out.trans hW))).mono ?_;rintro e w28 ⟨⟨u,rfl⟩,⟨hs28,g28⟩,o28,q28⟩;have G28:=Hh g28;have O28:=Hh (O27.out.trans o28);have Q28:=Hh (Q27.out.trans q28);clear g28 o28 q28 G27 O27 Q27;go_wp2_with fail;refine (G28.out.growJ HK.out (by decide) (by decide) (HG.out 29 (by decide) (by decide)) (HD.out 29 (by decide) (by decide)) (fun W hW => HP.out W (O28.out.trans hW))).mono ?_;rintro e w29 ⟨⟨u,rfl⟩,⟨hs29,g29⟩,o29,q29⟩;have G29:=Hh g29;have O29:=Hh (O28.out.trans o29);have Q29:=Hh (Q28.out.trans q29);clear g29 o29 q29 G28 O28 Q28;go_wp2_with fail;refine (G29.out.growJ HK.out (by decide) (by decide) (HG.out 30 (by decide) (by decide)) (HD.out 30 (by decide) (by decide)) (fun W hW => HP.out W (O29.out.trans hW))).mono ?_;rintro e w30 ⟨⟨u,rfl⟩,⟨hs30,g30⟩,o30,q30⟩;have G30:=Hh g30;have O30:=Hh (O29.out.trans o30);have Q30:=Hh (Q29.out.trans q30);clear g30 o30 q30 G29 O29 Q29;go_wp2_with fail;refine (G30.out.growJ HK.out (by decide) (by decide) (HG.out 31 (by decide) (by decide)) (HD.out 31 (by decide) (by decide)) (fun W hW => HP.out W (O30.out.trans hW))).mono ?_;rintro e w31 ⟨⟨u,rfl⟩,⟨hs31,g31⟩,o31,q31⟩;have G31:=Hh g31;have O31:=Hh (O30.out.trans o31);have Q31:=Hh (Q30.out.trans q31);clear g31 o31 q31 G30 O30 Q30;go_wp2;go_end0;exact ⟨⟨_,rfl⟩,⟨_,G31.out⟩,O31.out,Q31.out⟩
set_option maxHeartbeats 1600000 in
set_option maxRecDepth 100000 in
theorem apartA_any (h:BkSt 65 T NB B w b n vs hs g) (hK:Kinds 65 T NB) (hF:∀ j,1≤j→j<32→FillAt Tryz.prog PW NB (fillF j) j (T j) (hs j)) (hG:∀ j,1≤j→j<32→GrowAt Tryz.prog PW NB (growF j) j (T j) (hs j)) (hL:∀ j,1≤j→j<32→LookAt Tryz.prog PW (lookF j) j (T j) (hs j)) (hbd:∀ j,1≤j→j<32→∀ i,i<(hs j).length→(g j i).length+70≤(T j).bd) (hP:∀ W,Only (fun k => B≤k) w W→PW W) :
    Calls Tryz.prog 15 #[.pointer (some ⟨b,0,none⟩)] w fun e w' => e = .returned (.bool true)∧Only (ownsA vs hs) w w':=by
 have G0:=Hh (FillTo.start h);have HK:=Hh hK;have HF:=Hh hF;have HG:=Hh hG;have HL:=Hh hL;have HD:=Hh hbd;have O0:=Hh (Only.refl (S:=fun k => B≤k) w);have Q0:=Hh (Only.refl (S:=ownsA vs hs) w);have HP:=Hh hP;clear h hK hF hG hL hbd hP;go_enter Tryz.func15,Tryz.ntmps15;go_wp2_with fail;refine (G0.out.step HK.out (by decide) (by decide) (HF.out 1 (by decide) (by decide)) (fun W hW => HP.out W (O0.out.trans hW))).mono ?_;rintro e w1 ⟨⟨u,rfl⟩,g1,o1,q1⟩;have G1:=Hh g1;have O1:=Hh (O0.out.trans o1);have Q1:=Hh (Q0.out.trans q1);clear g1 o1 q1 G0 O0 Q0;go_wp2_with fail;refine (G1.out.step HK.out (by decide) (by decide) (HF.out 2 (by decide) (by decide)) (fun W hW => HP.out W (O1.out.trans hW))).mono ?_;rintro e w2 ⟨⟨u,rfl⟩,g2,o2,q2⟩;have G2:=Hh g2;have O2:=Hh (O1.out.trans o2);have Q2:=Hh (Q1.out.trans q2);clear g2 o2 q2 G1 O1 Q1;go_wp2_with fail;refine (G2.out.step HK.out (by decide) (by decide) (HF.out 3 (by decide) (by decide)) (fun W hW => HP.out W (O2.out.trans hW))).mono ?_;rintro e w3 ⟨⟨u,rfl⟩,g3,o3,q3⟩;have G3:=Hh g3;have O3:=Hh (O2.out.trans o3);have Q3:=Hh (Q2.out.trans q3);clear g3 o3 q3 G2 O2 Q2;go_wp2_with fail;refine (G3.out.step HK.out (by decide) (by decide) (HF.out 4 (by decide) (by decide)) (fun W hW => HP.out W (O3.out.trans hW))).mono ?_;rintro e w4 ⟨⟨u,rfl⟩,g4,o4,q4⟩;have G4:=Hh g4;have O4:=Hh (O3.out.trans o4);have Q4:=Hh (Q3.out.trans q4);clear g4 o4 q4 G3 O3 Q3;go_wp2_with fail;refine (G4.out.step HK.out (by decide) (by decide) (HF.out 5 (by decide) (by decide)) (fun W hW => HP.out W (O4.out.trans hW))).mono ?_;rintro e w5 ⟨⟨u,rfl⟩,g5,o5,q5⟩;have G5:=Hh g5;have O5:=Hh (O4.out.trans o5);have Q5:=Hh (Q4.out.trans q5);clear g5 o5 q5 G4 O4 Q4;go_wp2_with fail;refine (G5.out.step HK.out (by decide) (by decide) (HF.out 6 (by decide) (by decide)) (fun W hW => HP.out W (O5.out.trans hW))).mono ?_;rintro e w6 ⟨⟨u,rfl⟩,g6,o6,q6⟩;have G6:=Hh g6;have O6:=Hh (O5.out.trans o6);have Q6:=Hh (Q5.out.trans q6);clear g6 o6 q6 G5 O5 Q5;go_wp2_with fail;refine (G6.out.step HK.out (by decide) (by decide) (HF.out 7 (by decide) (by decide)) (fun W hW => HP.out W (O6.out.trans hW))).mono ?_;rintro e w7 ⟨⟨u,rfl⟩,g7,o7,q7⟩;have G7:=Hh g7;have O7:=Hh (O6.out.trans o7);have Q7:=Hh (Q6.out.trans q7);clear g7 o7 q7 G6 O6 Q6;go_wp2_with fail;refine (G7.out.step HK.out (by decide) (by decide) (HF.out 8 (by decide) (by decide)) (fun W hW => HP.out W (O7.out.trans hW))).mono ?_;rintro e w8 ⟨⟨u,rfl⟩,g8,o8,q8⟩;have G8:=Hh g8;have O8:=Hh (O7.out.trans o8);have Q8:=Hh (Q7.out.trans q8);clear g8 o8 q8 G7 O7 Q7;go_wp2_with fail;refine (G8.out.step HK.out (by decide) (by decide) (HF.out 9 (by decide) (by decide)) (fun W hW => HP.out W (O8.out.trans hW))).mono ?_;rintro e w9 ⟨⟨u,rfl⟩,g9,o9,q9⟩;have G9:=Hh g9;have O9:=Hh (O8.out.trans o9);have Q9:=Hh (Q8.out.trans q9);clear g9 o9 q9 G8 O8 Q8;go_wp2_with fail;refine (G9.out.step HK.out (by decide) (by decide) (HF.out 10 (by decide) (by decide)) (fun W hW => HP.out W (O9.out.trans hW))).mono ?_;rintro e w10 ⟨⟨u,rfl⟩,g10,o10,q10⟩;have G10:=Hh g10;have O10:=Hh (O9.out.trans o10);have Q10:=Hh (Q9.out.trans q10);clear g10 o10 q10 G9 O9 Q9;go_wp2_with fail;refine (G10.out.step HK.out (by decide) (by decide) (HF.out 11 (by decide) (by decide)) (fun W hW => HP.out W (O10.out.trans hW))).mono ?_;rintro e w11 ⟨⟨u,rfl⟩,g11,o11,q11⟩;have G11:=Hh g11;have O11:=Hh (O10.out.trans o11);have Q11:=Hh (Q10.out.trans q11);clear g11 o11 q11 G10 O10 Q10;go_wp2_with fail;refine (G11.out.step HK.out (by decide) (by decide) (HF.out 12 (by decide) (by decide)) (fun W hW => HP.out W (O11.out.trans hW))).mono ?_;rintro e w12 ⟨⟨u,rfl⟩,g12,o12,q12⟩;have G12:=Hh g12;have O12:=Hh (O11.out.trans o12);have Q12:=Hh (Q11.out.trans q12);clear g12 o12 q12 G11 O11 Q11;go_wp2_with fail;refine (G12.out.step HK.out (by decide) (by decide) (HF.out 13 (by decide) (by decide)) (fun W hW => HP.out W (O12.out.trans hW))).mono ?_;rintro e w13 ⟨⟨u,rfl⟩,g13,o13,q13⟩;have G13:=Hh g13;have O13:=Hh (O12.out.trans o13);have Q13:=Hh (Q12.out.trans q13);clear g13 o13 q13 G12 O12 Q12;go_wp2_with fail;refine (G13.out.step HK.out (by decide) (by decide) (HF.out 14 (by decide) (by decide)) (fun W hW => HP.out W (O13.out.trans hW))).mono ?_;rintro e w14 ⟨⟨u,rfl⟩,g14,o14,q14⟩;have G14:=Hh g14;have O14:=Hh (O13.out.trans o14);have Q14:=Hh (Q13.out.trans q14);clear g14 o14 q14 G13 O13 Q13;go_wp2_with fail;refine (G14.out.step HK.out (by decide) (by decide) (HF.out 15 (by decide) (by decide)) (fun W hW => HP.out W (O14.out.trans hW))).mono ?_;rintro e w15 ⟨⟨u,rfl⟩,g15,o15,q15⟩;have G15:=Hh g15;have O15:=Hh (O14.out.trans o15);have Q15:=Hh (Q14.out.trans q15);clear g15 o15 q15 G14 O14 Q14;go_wp2_with fail;refine (G15.out.step HK.out (by decide) (by decide) (HF.out 16 (by decide) (by decide)) (fun W hW => HP.out W (O15.out.trans hW))).mono ?_;rintro e w16 ⟨⟨u,rfl⟩,g16,o16,q16⟩;have G16:=Hh g16;have O16:=Hh (O15.out.trans o16);have Q16:=Hh (Q15.out.trans q16);clear g16 o16 q16 G15 O15 Q15;go_wp2_with fail;refine (G16.out.step HK.out (by decide) (by decide) (HF.out 17 (by decide) (by decide)) (fun W hW => HP.out W (O16.out.trans hW))).mono ?_;rintro e w17 ⟨⟨u,rfl⟩,g17,o17,q17⟩;have G17:=Hh g17;have O17:=Hh (O16.out.trans o17);have Q17:=Hh (Q16.out.trans q17);clear g17 o17 q17 G16 O16 Q16;go_wp2_with fail;refine (G17.out.step HK.out (by decide) (by decide) (HF.out 18 (by decide) (by decide)) (fun W hW => HP.out W (O17.out.trans hW))).mono ?_;rintro e w18 ⟨⟨u,rfl⟩,g18,o18,q18⟩;have G18:=Hh g18;have O18:=Hh (O17.out.trans o18);have Q18:=Hh (Q17.out.trans q18);clear g18 o18 q18 G17 O17 Q17;go_wp2_with fail;refine (G18.out.step HK.out (by decide) (by decide) (HF.out 19 (by decide) (by decide)) (fun W hW => HP.out W (O18.out.trans hW))).mono ?_;rintro e w19 ⟨⟨u,rfl⟩,g19,o19,q19⟩;have G19:=Hh g19;have O19:=Hh (O18.out.trans o19);have Q19:=Hh (Q18.out.trans q19);clear g19 o19 q19 G18 O18 Q18;go_wp2_with fail;refine (G19.out.step HK.out (by decide) (by decide) (HF.out 20 (by decide) (by decide)) (fun W hW => HP.out W (O19.out.trans hW))).mono ?_;rintro e w20 ⟨⟨u,rfl⟩,g20,o20,q20⟩;have G20:=Hh g20;have O20:=Hh (O19.out.trans o20);have Q20:=Hh (Q19.out.trans q20);clear g20 o20 q20 G19 O19 Q19;go_wp2_with fail;refine (G20.out.step HK.out (by decide) (by decide) (HF.out 21 (by decide) (by decide)) (fun W hW => HP.out W (O20.out.trans hW))).mono ?_;rintro e w21 ⟨⟨u,rfl⟩,g21,o21,q21⟩;have G21:=Hh g21;have O21:=Hh (O20.out.trans o21);have Q21:=Hh (Q20.out.trans q21);clear g21 o21 q21 G20 O20 Q20;go_wp2_with fail;refine (G21.out.step HK.out (by decide) (by decide) (HF.out 22 (by decide) (by decide)) (fun W hW => HP.out W (O21.out.trans hW))).mono ?_;rintro e w22 ⟨⟨u,rfl⟩,g22,o22,q22⟩;have G22:=Hh g22;have O22:=Hh (O21.out.trans o22);have Q22:=Hh (Q21.out.trans q22);clear g22 o22 q22 G21 O21 Q21;go_wp2_with fail;refine (G22.out.step HK.out (by decide) (by decide) (HF.out 23 (by decide) (by decide)) (fun W hW => HP.out W (O22.out.trans hW))).mono ?_;rintro e w23 ⟨⟨u,rfl⟩,g23,o23,q23⟩;have G23:=Hh g23;have O23:=Hh (O22.out.trans o23);have Q23:=Hh (Q22.out.trans q23);clear g23 o23 q23 G22 O22 Q22;go_wp2_with fail;refine (G23.out.step HK.out (by decide) (by decide) (HF.out 24 (by decide) (by decide)) (fun W hW => HP.out W (O23.out.trans hW))).mono ?_;rintro e w24 ⟨⟨u,rfl⟩,g24,o24,q24⟩;have G24:=Hh g24;have O24:=Hh (O23.out.trans o24);have Q24:=Hh (Q23.out.trans q24);clear g24 o24 q24 G23 O23 Q23;go_wp2_with fail;refine (G24.out.step HK.out (by decide) (by decide) (HF.out 25 (by decide) (by decide)) (fun W hW => HP.out W (O24.out.trans hW))).mono ?_;rintro e w25 ⟨⟨u,rfl⟩,g25,o25,q25⟩;have G25:=Hh g25;have O25:=Hh (O24.out.trans o25);have Q25:=Hh (Q24.out.trans q25);clear g25 o25 q25 G24 O24 Q24;go_wp2_with fail;refine (G25.out.step HK.out (by decide) (by decide) (HF.out 26 (by decide) (by decide)) (fun W hW => HP.out W (O25.out.trans hW))).mono ?_;rintro e w26 ⟨⟨u,rfl⟩,g26,o26,q26⟩;have G26:=Hh g26;have O26:=Hh (O25.out.trans o26);have Q26:=Hh (Q25.out.trans q26);clear g26 o26 q26 G25 O25 Q25;go_wp2_with fail;refine (G26.out.step HK.out (by decide) (by decide) (HF.out 27 (by decide) (by decide)) (fun W hW => HP.out W (O26.out.trans hW))).mono ?_;rintro e w27 ⟨⟨u,rfl⟩,g27,o27,q27⟩;have G27:=Hh g27;have O27:=Hh (O26.out.trans o27);have Q27:=Hh (Q26.out.trans q27);clear g27 o27 q27 G26 O26 Q26;go_wp2_with fail;refine (G27.out.step HK.out (by decide) (by decide) (HF.out 28 (by decide) (by decide)) (fun W hW => HP.out W (O27.out.trans hW))).mono ?_;rintro e w28 ⟨⟨u,rfl⟩,g28,o28,q28⟩;have G28:=Hh g28;have O28:=Hh (O27.out.trans o28);have Q28:=Hh (Q27.out.trans q28);clear g28 o28 q28 G27 O27 Q27;go_wp2_with fail;refine (G28.out.step HK.out (by decide) (by decide) (HF.out 29 (by decide) (by decide)) (fun W hW => HP.out W (O28.out.trans hW))).mono ?_;rintro e w29 ⟨⟨u,rfl⟩,g29,o29,q29⟩;have G29:=Hh g29;have O29:=Hh (O28.out.trans o29);have Q29:=Hh (Q28.out.trans q29);clear g29 o29 q29 G28 O28 Q28;go_wp2_with fail;refine (G29.out.step HK.out (by decide) (by decide) (HF.out 30 (by decide) (by decide)) (fun W hW => HP.out W (O29.out.trans hW))).mono ?_;rintro e w30 ⟨⟨u,rfl⟩,g30,o30,q30⟩;have G30:=Hh g30;have O30:=Hh (O29.out.trans o30);have Q30:=Hh (Q29.out.trans q30);clear g30 o30 q30 G29 O29 Q29;go_wp2_with fail;refine (G30.out.step HK.out (by decide) (by decide) (HF.out 31 (by decide) (by decide)) (fun W hW => HP.out W (O30.out.trans hW))).mono ?_;rintro e w31 ⟨⟨u,rfl⟩,g31,o31,q31⟩;have G31:=Hh g31;have O31:=Hh (O30.out.trans o31);have Q31:=Hh (Q30.out.trans q31);clear g31 o31 q31 G30 O30 Q30;go_wp2_with fail;refine (growAllA_any (G31.out.grow0 HK.out) HK.out HG.out HD.out (fun W hW => HP.out W (O31.out.trans hW))).mono ?_;rintro e wg ⟨⟨u,rfl⟩,⟨hsg,gg⟩,og,qg⟩;have GG:=Hh gg;have OG:=Hh (O31.out.trans og);have QG:=Hh (Q31.out.trans qg);have HPG:=Hh (fun W (hW:Fut wg W) => HP.out W ((O31.out.trans og).trans (Only.fut hW)));clear gg og qg G31 O31 Q31;go_wp2_with fail;refine (lookOneA_any GG.out HK.out HL.out HD.out HPG.out (Fut.refl _)).mono ?_;rintro e wh ⟨rfl,fh⟩;have FH:=Hh fh;clear fh;go_wp2_with fail;refine (lookTwoA_any GG.out HK.out HL.out HD.out HPG.out FH.out).mono ?_;rintro e wi ⟨rfl,fi⟩;go_wp2;go_ret;exact ⟨rfl,QG.out.trans (Only.fut (FH.out.trans fi))⟩
end
end Go.Proofs.YtobabnpllokkaaaGreatDoor
namespace Go.Proofs.YtobabnpllokkaaaGreatDoor
open Go.RowKit
def wordN (n:Int):ByteArray:=⟨#[35]⟩++⟨(Lib.itoa n).toArray⟩
set_option maxHeartbeats 400000 in
theorem wordN_any (n:Int) (h0:0≤n) (h1:n≤1000000000) (w:World) (hP:Pows w):Calls Tryz.prog 89 #[.int .i64 n] w fun e w' => e = .returned (.string (wordN n))∧Fut w w':=by
 have HI:Hid (Calls Tryz.prog 205 #[.int .i64 n] w fun e w' => e = .returned (.string ⟨(Lib.itoa n).toArray⟩)∧Fut w w') :=
  Hh ((Tryz.strconv_Itoa n (by omega) (by omega) w hP).mono fun e w' ⟨h,k,os,hw⟩ => ⟨h,hw ▸ fut_grow w k os⟩)
 have hsz:(⟨(Lib.itoa n).toArray⟩:ByteArray).size≤30:=by
  rw [Lib.size_eq];exact itoa_len n (by omega)
 unfold wordN;generalize (⟨(Lib.itoa n).toArray⟩:ByteArray)=t at HI hsz ⊢;have h1:(⟨#[35]⟩:ByteArray).size=1:=rfl;go_enter Tryz.func89,Tryz.ntmps89;go_wp2_with fail;refine HI.out.mono ?_;rintro e w1 ⟨rfl,h1⟩;go_wp2;go_ret;exact ⟨rfl,h1⟩
end Go.Proofs.YtobabnpllokkaaaGreatDoor
