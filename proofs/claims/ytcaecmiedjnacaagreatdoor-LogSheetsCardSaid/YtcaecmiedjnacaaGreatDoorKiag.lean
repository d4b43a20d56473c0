/- Own lemmas, used by the last text. Conditions: those that each theorem states. -/
import Derived.Test.YtcaecmiedjnacaaGreatDoorKiaf
import Derived.Test.YtcaecmiedjnacaaGreatDoorProg
set_option maxRecDepth 200000
set_option maxHeartbeats 8000000
namespace Go.Proofs.Tryz
open Go.Psl
def p3 : PC := (⟨_, by conv => lhs; reduce⟩ : Rd (G f3 [])).1
theorem c3 : f3.body.bind (comp f3.ntmps) = some p3 := by kernel_rfl
def p4 : PC := (⟨_, by conv => lhs; reduce⟩ : Rd (G f4 [])).1
theorem c4 : f4.body.bind (comp f4.ntmps) = some p4 := by kernel_rfl
def p5 : PC := (⟨_, by conv => lhs; reduce⟩ : Rd (G f5 [])).1
theorem c5 : f5.body.bind (comp f5.ntmps) = some p5 := by kernel_rfl
def p6 : PC := (⟨_, by conv => lhs; reduce⟩ : Rd (G f6 [])).1
theorem c6 : f6.body.bind (comp f6.ntmps) = some p6 := by kernel_rfl
def p7l0 : PC := (⟨_, by conv => lhs; reduce⟩ : Rd (K f7 0 [])).1
def p7 : PC := (⟨_, by conv => lhs; reduce⟩ : Rd (fun a => G f7 [a])).1 p7l0
theorem c7 : f7.body.bind (comp f7.ntmps) = some p7 := by kernel_rfl
def p8l0 : PC := (⟨_, by conv => lhs; reduce⟩ : Rd (K f8 0 [])).1
def p8 : PC := (⟨_, by conv => lhs; reduce⟩ : Rd (fun a => G f8 [a])).1 p8l0
theorem c8 : f8.body.bind (comp f8.ntmps) = some p8 := by kernel_rfl
def p9 : PC := (⟨_, by conv => lhs; reduce⟩ : Rd (G f9 [])).1
theorem c9 : f9.body.bind (comp f9.ntmps) = some p9 := by kernel_rfl
def p17l0 : PC := (⟨_, by conv => lhs; reduce⟩ : Rd (K f17 0 [])).1
def p17 : PC := (⟨_, by conv => lhs; reduce⟩ : Rd (fun a => G f17 [a])).1 p17l0
theorem c17 : f17.body.bind (comp f17.ntmps) = some p17 := by kernel_rfl
def p18l0 : PC := (⟨_, by conv => lhs; reduce⟩ : Rd (K f18 0 [])).1
def p18 : PC := (⟨_, by conv => lhs; reduce⟩ : Rd (fun a => G f18 [a])).1 p18l0
theorem c18 : f18.body.bind (comp f18.ntmps) = some p18 := by kernel_rfl
def p19 : PC := (⟨_, by conv => lhs; reduce⟩ : Rd (G f19 [])).1
theorem c19 : f19.body.bind (comp f19.ntmps) = some p19 := by kernel_rfl
def p20l0 : PC := (⟨_, by conv => lhs; reduce⟩ : Rd (K f20 0 [])).1
def p20 : PC := (⟨_, by conv => lhs; reduce⟩ : Rd (fun a => G f20 [a])).1 p20l0
theorem c20 : f20.body.bind (comp f20.ntmps) = some p20 := by kernel_rfl
def p21l0 : PC := (⟨_, by conv => lhs; reduce⟩ : Rd (K f21 0 [])).1
def p21l1 : PC := (⟨_, by conv => lhs; reduce⟩ : Rd (fun a => K f21 1 [a])).1 p21l0
def p21 : PC := (⟨_, by conv => lhs; reduce⟩ : Rd (fun a => G f21 [a])).1 p21l1
theorem c21 : f21.body.bind (comp f21.ntmps) = some p21 := by kernel_rfl
def p22l0 : PC := (⟨_, by conv => lhs; reduce⟩ : Rd (K f22 0 [])).1
def p22 : PC := (⟨_, by conv => lhs; reduce⟩ : Rd (fun a => G f22 [a])).1 p22l0
theorem c22 : f22.body.bind (comp f22.ntmps) = some p22 := by kernel_rfl
def p23l0 : PC := (⟨_, by conv => lhs; reduce⟩ : Rd (K f23 0 [])).1
def p23 : PC := (⟨_, by conv => lhs; reduce⟩ : Rd (fun a => G f23 [a])).1 p23l0
theorem c23 : f23.body.bind (comp f23.ntmps) = some p23 := by kernel_rfl
def p24l0 : PC := (⟨_, by conv => lhs; reduce⟩ : Rd (K f24 0 [])).1
def p24 : PC := (⟨_, by conv => lhs; reduce⟩ : Rd (fun a => G f24 [a])).1 p24l0
theorem c24 : f24.body.bind (comp f24.ntmps) = some p24 := by kernel_rfl
def p25 : PC := (⟨_, by conv => lhs; reduce⟩ : Rd (G f25 [])).1
def p30 : PC := (⟨_, by conv => lhs; reduce⟩ : Rd (G f30 [])).1
theorem c30 : f30.body.bind (comp f30.ntmps) = some p30 := by kernel_rfl
def p37 : PC := (⟨_, by conv => lhs; reduce⟩ : Rd (G f37 [])).1
theorem c37 : f37.body.bind (comp f37.ntmps) = some p37 := by kernel_rfl
def p43 : PC := (⟨_, by conv => lhs; reduce⟩ : Rd (G f43 [])).1
theorem c43 : f43.body.bind (comp f43.ntmps) = some p43 := by kernel_rfl
def p44 : PC := (⟨_, by conv => lhs; reduce⟩ : Rd (G f44 [])).1
theorem c44 : f44.body.bind (comp f44.ntmps) = some p44 := by kernel_rfl
def p45 : PC := (⟨_, by conv => lhs; reduce⟩ : Rd (G f45 [])).1
theorem c45 : f45.body.bind (comp f45.ntmps) = some p45 := by kernel_rfl
def p46 : PC := (⟨_, by conv => lhs; reduce⟩ : Rd (G f46 [])).1
theorem c46 : f46.body.bind (comp f46.ntmps) = some p46 := by kernel_rfl
def p49l0 : PC := (⟨_, by conv => lhs; reduce⟩ : Rd (K f49 0 [])).1
def p49 : PC := (⟨_, by conv => lhs; reduce⟩ : Rd (fun a => G f49 [a])).1 p49l0
theorem c49 : f49.body.bind (comp f49.ntmps) = some p49 := by kernel_rfl
def p51l0 : PC := (⟨_, by conv => lhs; reduce⟩ : Rd (K f51 0 [])).1
def p51 : PC := (⟨_, by conv => lhs; reduce⟩ : Rd (fun a => G f51 [a])).1 p51l0
theorem c51 : f51.body.bind (comp f51.ntmps) = some p51 := by kernel_rfl
def p53 : PC := (⟨_, by conv => lhs; reduce⟩ : Rd (G f53 [])).1
theorem c53 : f53.body.bind (comp f53.ntmps) = some p53 := by kernel_rfl
def p57 : PC := (⟨_, by conv => lhs; reduce⟩ : Rd (G f57 [])).1
theorem c57 : f57.body.bind (comp f57.ntmps) = some p57 := by kernel_rfl
def p58l0 : PC := (⟨_, by conv => lhs; reduce⟩ : Rd (K f58 0 [])).1
def p58 : PC := (⟨_, by conv => lhs; reduce⟩ : Rd (fun a => G f58 [a])).1 p58l0
theorem c58 : f58.body.bind (comp f58.ntmps) = some p58 := by kernel_rfl
def p59 : PC := (⟨_, by conv => lhs; reduce⟩ : Rd (G f59 [])).1
theorem c59 : f59.body.bind (comp f59.ntmps) = some p59 := by kernel_rfl
def p60 : PC := (⟨_, by conv => lhs; reduce⟩ : Rd (G f60 [])).1
theorem c60 : f60.body.bind (comp f60.ntmps) = some p60 := by kernel_rfl
def p62l0 : PC := (⟨_, by conv => lhs; reduce⟩ : Rd (K f62 0 [])).1
def p62l1 : PC := (⟨_, by conv => lhs; reduce⟩ : Rd (fun a => K f62 1 [a])).1 p62l0
def p62l2 : PC := (⟨_, by conv => lhs; reduce⟩ : Rd (K f62 2 [])).1
def p62l3 : PC := (⟨_, by conv => lhs; reduce⟩ : Rd (fun a => K f62 3 [a])).1 p62l2
def p62 : PC := (⟨_, by conv => lhs; reduce⟩ : Rd (fun a b => G f62 [a, b])).1 p62l1 p62l3
theorem c62 : f62.body.bind (comp f62.ntmps) = some p62 := by kernel_rfl
def p63l0 : PC := (⟨_, by conv => lhs; reduce⟩ : Rd (K f63 0 [])).1
def p63 : PC := (⟨_, by conv => lhs; reduce⟩ : Rd (fun a => G f63 [a])).1 p63l0
theorem c63 : f63.body.bind (comp f63.ntmps) = some p63 := by kernel_rfl
def p64l0 : PC := (⟨_, by conv => lhs; reduce⟩ : Rd (K f64 0 [])).1
def p64 : PC := (⟨_, by conv => lhs; reduce⟩ : Rd (fun a => G f64 [a])).1 p64l0
theorem c64 : f64.body.bind (comp f64.ntmps) = some p64 := by kernel_rfl
def p67l0 : PC := (⟨_, by conv => lhs; reduce⟩ : Rd (K f67 0 [])).1
def p67 : PC := (⟨_, by conv => lhs; reduce⟩ : Rd (fun a => G f67 [a])).1 p67l0
theorem c67 : f67.body.bind (comp f67.ntmps) = some p67 := by kernel_rfl
def p68l0 : PC := (⟨_, by conv => lhs; reduce⟩ : Rd (K f68 0 [])).1
def p68 : PC := (⟨_, by conv => lhs; reduce⟩ : Rd (fun a => G f68 [a])).1 p68l0
theorem c68 : f68.body.bind (comp f68.ntmps) = some p68 := by kernel_rfl
def p69 : PC := (⟨_, by conv => lhs; reduce⟩ : Rd (G f69 [])).1
theorem c69 : f69.body.bind (comp f69.ntmps) = some p69 := by kernel_rfl
def p70 : PC := (⟨_, by conv => lhs; reduce⟩ : Rd (G f70 [])).1
theorem c70 : f70.body.bind (comp f70.ntmps) = some p70 := by kernel_rfl
def p71l0 : PC := (⟨_, by conv => lhs; reduce⟩ : Rd (K f71 0 [])).1
def p71 : PC := (⟨_, by conv => lhs; reduce⟩ : Rd (fun a => G f71 [a])).1 p71l0
theorem c71 : f71.body.bind (comp f71.ntmps) = some p71 := by kernel_rfl
def p72l0 : PC := (⟨_, by conv => lhs; reduce⟩ : Rd (K f72 0 [])).1
def p72 : PC := (⟨_, by conv => lhs; reduce⟩ : Rd (fun a => G f72 [a])).1 p72l0
theorem c72 : f72.body.bind (comp f72.ntmps) = some p72 := by kernel_rfl
def p73l0 : PC := (⟨_, by conv => lhs; reduce⟩ : Rd (K f73 0 [])).1
def p73 : PC := (⟨_, by conv => lhs; reduce⟩ : Rd (fun a => G f73 [a])).1 p73l0
theorem c73 : f73.body.bind (comp f73.ntmps) = some p73 := by kernel_rfl
def p74l0 : PC := (⟨_, by conv => lhs; reduce⟩ : Rd (K f74 0 [])).1
def p74 : PC := (⟨_, by conv => lhs; reduce⟩ : Rd (fun a => G f74 [a])).1 p74l0
theorem c74 : f74.body.bind (comp f74.ntmps) = some p74 := by kernel_rfl
def p75 : PC := (⟨_, by conv => lhs; reduce⟩ : Rd (G f75 [])).1
theorem c75 : f75.body.bind (comp f75.ntmps) = some p75 := by kernel_rfl
def p76 : PC := (⟨_, by conv => lhs; reduce⟩ : Rd (G f76 [])).1
theorem c76 : f76.body.bind (comp f76.ntmps) = some p76 := by kernel_rfl
def p78 : PC := (⟨_, by conv => lhs; reduce⟩ : Rd (G f78 [])).1
theorem c78 : f78.body.bind (comp f78.ntmps) = some p78 := by kernel_rfl
def p79l0 : PC := (⟨_, by conv => lhs; reduce⟩ : Rd (K f79 0 [])).1
def p79 : PC := (⟨_, by conv => lhs; reduce⟩ : Rd (fun a => G f79 [a])).1 p79l0
theorem c79 : f79.body.bind (comp f79.ntmps) = some p79 := by kernel_rfl
def p80 : PC := (⟨_, by conv => lhs; reduce⟩ : Rd (G f80 [])).1
theorem c80 : f80.body.bind (comp f80.ntmps) = some p80 := by kernel_rfl
def p85 : PC := (⟨_, by conv => lhs; reduce⟩ : Rd (G f85 [])).1
theorem c85 : f85.body.bind (comp f85.ntmps) = some p85 := by kernel_rfl
def p90 : PC := (⟨_, by conv => lhs; reduce⟩ : Rd (G f90 [])).1
def p91l0 : PC := (⟨_, by conv => lhs; reduce⟩ : Rd (K f91 0 [])).1
def p91 : PC := (⟨_, by conv => lhs; reduce⟩ : Rd (fun a => G f91 [a])).1 p91l0
theorem c91 : f91.body.bind (comp f91.ntmps) = some p91 := by kernel_rfl
def p92 : PC := (⟨_, by conv => lhs; reduce⟩ : Rd (G f92 [])).1
theorem c92 : f92.body.bind (comp f92.ntmps) = some p92 := by kernel_rfl
def p93 : PC := (⟨_, by conv => lhs; reduce⟩ : Rd (G f93 [])).1
theorem c93 : f93.body.bind (comp f93.ntmps) = some p93 := by kernel_rfl
def p99l0 : PC := (⟨_, by conv => lhs; reduce⟩ : Rd (K f99 0 [])).1
def p100 : PC := (⟨_, by conv => lhs; reduce⟩ : Rd (G f100 [])).1
theorem c100 : f100.body.bind (comp f100.ntmps) = some p100 := by kernel_rfl
def p101l0 : PC := (⟨_, by conv => lhs; reduce⟩ : Rd (K f101 0 [])).1
def p101 : PC := (⟨_, by conv => lhs; reduce⟩ : Rd (fun a => G f101 [a])).1 p101l0
theorem c101 : f101.body.bind (comp f101.ntmps) = some p101 := by kernel_rfl
def p102 : PC := (⟨_, by conv => lhs; reduce⟩ : Rd (G f102 [])).1
theorem c102 : f102.body.bind (comp f102.ntmps) = some p102 := by kernel_rfl
def p104 : PC := (⟨_, by conv => lhs; reduce⟩ : Rd (G f104 [])).1
theorem c104 : f104.body.bind (comp f104.ntmps) = some p104 := by kernel_rfl
def p105l0 : PC := (⟨_, by conv => lhs; reduce⟩ : Rd (K f105 0 [])).1
def p105 : PC := (⟨_, by conv => lhs; reduce⟩ : Rd (fun a => G f105 [a])).1 p105l0
theorem c105 : f105.body.bind (comp f105.ntmps) = some p105 := by kernel_rfl
def p106 : PC := (⟨_, by conv => lhs; reduce⟩ : Rd (G f106 [])).1
theorem c106 : f106.body.bind (comp f106.ntmps) = some p106 := by kernel_rfl
def p107l0 : PC := (⟨_, by conv => lhs; reduce⟩ : Rd (K f107 0 [])).1
def p107 : PC := (⟨_, by conv => lhs; reduce⟩ : Rd (fun a => G f107 [a])).1 p107l0
theorem c107 : f107.body.bind (comp f107.ntmps) = some p107 := by kernel_rfl
def p108 : PC := (⟨_, by conv => lhs; reduce⟩ : Rd (G f108 [])).1
theorem c108 : f108.body.bind (comp f108.ntmps) = some p108 := by kernel_rfl
def p109 : PC := (⟨_, by conv => lhs; reduce⟩ : Rd (G f109 [])).1
theorem c109 : f109.body.bind (comp f109.ntmps) = some p109 := by kernel_rfl
def p110 : PC := (⟨_, by conv => lhs; reduce⟩ : Rd (G f110 [])).1
theorem c110 : f110.body.bind (comp f110.ntmps) = some p110 := by kernel_rfl
def p113 : PC := (⟨_, by conv => lhs; reduce⟩ : Rd (G f113 [])).1
theorem c113 : f113.body.bind (comp f113.ntmps) = some p113 := by kernel_rfl
def p114 : PC := (⟨_, by conv => lhs; reduce⟩ : Rd (G f114 [])).1
theorem c114 : f114.body.bind (comp f114.ntmps) = some p114 := by kernel_rfl
def p115l0 : PC := (⟨_, by conv => lhs; reduce⟩ : Rd (K f115 0 [])).1
def p115l1 : PC := (⟨_, by conv => lhs; reduce⟩ : Rd (fun a => K f115 1 [a])).1 p115l0
def p115 : PC := (⟨_, by conv => lhs; reduce⟩ : Rd (fun a => G f115 [a])).1 p115l1
theorem c115 : f115.body.bind (comp f115.ntmps) = some p115 := by kernel_rfl
def p116l0 : PC := (⟨_, by conv => lhs; reduce⟩ : Rd (K f116 0 [])).1
def p116l1 : PC := (⟨_, by conv => lhs; reduce⟩ : Rd (fun a => K f116 1 [a])).1 p116l0
def p116l2 : PC := (⟨_, by conv => lhs; reduce⟩ : Rd (K f116 2 [])).1
def p116l3 : PC := (⟨_, by conv => lhs; reduce⟩ : Rd (fun a => K f116 3 [a])).1 p116l2
def p116 : PC := (⟨_, by conv => lhs; reduce⟩ : Rd (fun a b => G f116 [a, b])).1 p116l1 p116l3
theorem c116 : f116.body.bind (comp f116.ntmps) = some p116 := by kernel_rfl
def p117 : PC := (⟨_, by conv => lhs; reduce⟩ : Rd (G f117 [])).1
theorem c117 : f117.body.bind (comp f117.ntmps) = some p117 := by kernel_rfl
def p121 : PC := (⟨_, by conv => lhs; reduce⟩ : Rd (G f121 [])).1
theorem c121 : f121.body.bind (comp f121.ntmps) = some p121 := by kernel_rfl
def p122l0 : PC := (⟨_, by conv => lhs; reduce⟩ : Rd (K f122 0 [])).1
def p122 : PC := (⟨_, by conv => lhs; reduce⟩ : Rd (fun a => G f122 [a])).1 p122l0
theorem c122 : f122.body.bind (comp f122.ntmps) = some p122 := by kernel_rfl
def p123 : PC := (⟨_, by conv => lhs; reduce⟩ : Rd (G f123 [])).1
theorem c123 : f123.body.bind (comp f123.ntmps) = some p123 := by kernel_rfl
def p124 : PC := (⟨_, by conv => lhs; reduce⟩ : Rd (G f124 [])).1
theorem c124 : f124.body.bind (comp f124.ntmps) = some p124 := by kernel_rfl
def p125 : PC := (⟨_, by conv => lhs; reduce⟩ : Rd (G f125 [])).1
theorem c125 : f125.body.bind (comp f125.ntmps) = some p125 := by kernel_rfl
def p126 : PC := (⟨_, by conv => lhs; reduce⟩ : Rd (G f126 [])).1
theorem c126 : f126.body.bind (comp f126.ntmps) = some p126 := by kernel_rfl
def p127 : PC := (⟨_, by conv => lhs; reduce⟩ : Rd (G f127 [])).1
theorem c127 : f127.body.bind (comp f127.ntmps) = some p127 := by kernel_rfl
def p130l0 : PC := (⟨_, by conv => lhs; reduce⟩ : Rd (K f130 0 [])).1
def p130 : PC := (⟨_, by conv => lhs; reduce⟩ : Rd (fun a => G f130 [a])).1 p130l0
theorem c130 : f130.body.bind (comp f130.ntmps) = some p130 := by kernel_rfl
def p131l0 : PC := (⟨_, by conv => lhs; reduce⟩ : Rd (K f131 0 [])).1
def p131 : PC := (⟨_, by conv => lhs; reduce⟩ : Rd (fun a => G f131 [a])).1 p131l0
theorem c131 : f131.body.bind (comp f131.ntmps) = some p131 := by kernel_rfl
def p143l0 : PC := (⟨_, by conv => lhs; reduce⟩ : Rd (K f143 0 [])).1
def p143 : PC := (⟨_, by conv => lhs; reduce⟩ : Rd (fun a => G f143 [a])).1 p143l0
theorem c143 : f143.body.bind (comp f143.ntmps) = some p143 := by kernel_rfl
def p145l0 : PC := (⟨_, by conv => lhs; reduce⟩ : Rd (K f145 0 [])).1
def p145 : PC := (⟨_, by conv => lhs; reduce⟩ : Rd (fun a => G f145 [a])).1 p145l0
theorem c145 : f145.body.bind (comp f145.ntmps) = some p145 := by kernel_rfl
def p150 : PC := (⟨_, by conv => lhs; reduce⟩ : Rd (G f150 [])).1
def p152 : PC := (⟨_, by conv => lhs; reduce⟩ : Rd (G f152 [])).1
theorem c152 : f152.body.bind (comp f152.ntmps) = some p152 := by kernel_rfl
def p153l0 : PC := (⟨_, by conv => lhs; reduce⟩ : Rd (K f153 0 [])).1
def p153 : PC := (⟨_, by conv => lhs; reduce⟩ : Rd (fun a => G f153 [a])).1 p153l0
theorem c153 : f153.body.bind (comp f153.ntmps) = some p153 := by kernel_rfl
def p154l0 : PC := (⟨_, by conv => lhs; reduce⟩ : Rd (K f154 0 [])).1
def p154 : PC := (⟨_, by conv => lhs; reduce⟩ : Rd (fun a => G f154 [a])).1 p154l0
theorem c154 : f154.body.bind (comp f154.ntmps) = some p154 := by kernel_rfl
def p159 : PC := (⟨_, by conv => lhs; reduce⟩ : Rd (G f159 [])).1
theorem c159 : f159.body.bind (comp f159.ntmps) = some p159 := by kernel_rfl
def p160 : PC := (⟨_, by conv => lhs; reduce⟩ : Rd (G f160 [])).1
theorem c160 : f160.body.bind (comp f160.ntmps) = some p160 := by kernel_rfl
def p161l0 : PC := (⟨_, by conv => lhs; reduce⟩ : Rd (K f161 0 [])).1
def p161 : PC := (⟨_, by conv => lhs; reduce⟩ : Rd (fun a => G f161 [a])).1 p161l0
theorem c161 : f161.body.bind (comp f161.ntmps) = some p161 := by kernel_rfl
def p162 : PC := (⟨_, by conv => lhs; reduce⟩ : Rd (G f162 [])).1
theorem c162 : f162.body.bind (comp f162.ntmps) = some p162 := by kernel_rfl
def p163l0 : PC := (⟨_, by conv => lhs; reduce⟩ : Rd (K f163 0 [])).1
def p163 : PC := (⟨_, by conv => lhs; reduce⟩ : Rd (fun a => G f163 [a])).1 p163l0
theorem c163 : f163.body.bind (comp f163.ntmps) = some p163 := by kernel_rfl
def p164l0 : PC := (⟨_, by conv => lhs; reduce⟩ : Rd (K f164 0 [])).1
def p164l1 : PC := (⟨_, by conv => lhs; reduce⟩ : Rd (fun a => K f164 1 [a])).1 p164l0
def p164 : PC := (⟨_, by conv => lhs; reduce⟩ : Rd (fun a => G f164 [a])).1 p164l1
theorem c164 : f164.body.bind (comp f164.ntmps) = some p164 := by kernel_rfl
def p168 : PC := (⟨_, by conv => lhs; reduce⟩ : Rd (G f168 [])).1
theorem c168 : f168.body.bind (comp f168.ntmps) = some p168 := by kernel_rfl
def p173 : PC := (⟨_, by conv => lhs; reduce⟩ : Rd (G f173 [])).1
theorem c173 : f173.body.bind (comp f173.ntmps) = some p173 := by kernel_rfl
def p175l0 : PC := (⟨_, by conv => lhs; reduce⟩ : Rd (K f175 0 [])).1
def p175 : PC := (⟨_, by conv => lhs; reduce⟩ : Rd (fun a => G f175 [a])).1 p175l0
theorem c175 : f175.body.bind (comp f175.ntmps) = some p175 := by kernel_rfl
def p191l0 : PC := (⟨_, by conv => lhs; reduce⟩ : Rd (K f191 0 [])).1
def p191 : PC := (⟨_, by conv => lhs; reduce⟩ : Rd (fun a => G f191 [a])).1 p191l0
theorem c191 : f191.body.bind (comp f191.ntmps) = some p191 := by kernel_rfl
def p193l0 : PC := (⟨_, by conv => lhs; reduce⟩ : Rd (K f193 0 [])).1
def p193l1 : PC := (⟨_, by conv => lhs; reduce⟩ : Rd (K f193 1 [])).1
def p193 : PC := (⟨_, by conv => lhs; reduce⟩ : Rd (fun a b => G f193 [a, b])).1 p193l0 p193l1
theorem c193 : f193.body.bind (comp f193.ntmps) = some p193 := by kernel_rfl
def p194l0 : PC := (⟨_, by conv => lhs; reduce⟩ : Rd (K f194 0 [])).1
def p194l1 : PC := (⟨_, by conv => lhs; reduce⟩ : Rd (fun a => K f194 1 [a])).1 p194l0
def p194 : PC := (⟨_, by conv => lhs; reduce⟩ : Rd (fun a => G f194 [a])).1 p194l1
theorem c194 : f194.body.bind (comp f194.ntmps) = some p194 := by kernel_rfl
def p196 : PC := (⟨_, by conv => lhs; reduce⟩ : Rd (G f196 [])).1
theorem c196 : f196.body.bind (comp f196.ntmps) = some p196 := by kernel_rfl
def p198 : PC := (⟨_, by conv => lhs; reduce⟩ : Rd (G f198 [])).1
theorem c198 : f198.body.bind (comp f198.ntmps) = some p198 := by kernel_rfl
def p210 : PC := (⟨_, by conv => lhs; reduce⟩ : Rd (G f210 [])).1
theorem c210 : f210.body.bind (comp f210.ntmps) = some p210 := by kernel_rfl
def p212l0 : PC := (⟨_, by conv => lhs; reduce⟩ : Rd (K f212 0 [])).1
def p212l1 : PC := (⟨_, by conv => lhs; reduce⟩ : Rd (K f212 1 [])).1
def p212 : PC := (⟨_, by conv => lhs; reduce⟩ : Rd (fun a b => G f212 [a, b])).1 p212l0 p212l1
theorem c212 : f212.body.bind (comp f212.ntmps) = some p212 := by kernel_rfl
def p213 : PC := (⟨_, by conv => lhs; reduce⟩ : Rd (G f213 [])).1
theorem c213 : f213.body.bind (comp f213.ntmps) = some p213 := by kernel_rfl
def ty2 : Ty := ⟨1, 8, false, .int .i64, [(.int .i64 0)]⟩
def ty3 : Ty := ⟨1, 8, false, .int .i64, [(.int .i64 0)]⟩
def ty4 : Ty := ⟨1, 1, false, .bool, [(.bool false)]⟩
def ty5 : Ty := ⟨1, 1, false, .int .u8, [(.int .u8 0)]⟩
def ty9 : Ty := ⟨1, 16, false, .str, [(.string ByteArray.empty)]⟩
def ty20 : Ty := ⟨1, 16, false, .ifc true, [.nilIface]⟩
def ty21 : Ty := ⟨1, 4, false, .int .i32, [(.int .i32 0)]⟩
def ty22 : Ty := ⟨1, 24, false, .slice 83, [(.slice none 0 0)]⟩
def ty24 : Ty := ⟨2, 40, true, .struct [(0, 9), (1, 22)], [(.string ByteArray.empty), (.slice none 0 0)]⟩
def ty25 : Ty := ⟨1, 8, false, .int .i64, [(.int .i64 0)]⟩
def ty30 : Ty := ⟨1, 24, false, .slice 3, [(.slice none 0 0)]⟩
def ty38 : Ty := ⟨1, 24, false, .slice 70, [(.slice none 0 0)]⟩
def ty40 : Ty := ⟨2, 40, true, .struct [(0, 9), (1, 38)], [(.string ByteArray.empty), (.slice none 0 0)]⟩
def ty41 : Ty := ⟨1, 24, false, .slice 128, [(.slice none 0 0)]⟩
def ty60 : Ty := ⟨1, 2, false, .int .u16, [(.int .u16 0)]⟩
def ty61 : Ty := ⟨1, 24, false, .slice 5, [(.slice none 0 0)]⟩
def ty64 : Ty := ⟨1, 24, false, .slice 68, [(.slice none 0 0)]⟩
def ty66 : Ty := ⟨2, 16, true, .struct [(0, 3), (1, 3)], [(.int .i64 0), (.int .i64 0)]⟩
def ty68 : Ty := ⟨4, 32, true, .struct [(0, 66), (2, 66)], [(.int .i64 0), (.int .i64 0), (.int .i64 0), (.int .i64 0)]⟩
def ty70 : Ty := ⟨5, 48, true, .struct [(0, 9), (1, 68)], [(.string ByteArray.empty), (.int .i64 0), (.int .i64 0), (.int .i64 0), (.int .i64 0)]⟩
def ty71 : Ty := ⟨1, 24, false, .slice 202, [(.slice none 0 0)]⟩
def ty73 : Ty := ⟨2, 32, true, .struct [(0, 3), (1, 71)], [(.int .i64 0), (.slice none 0 0)]⟩
def ty76 : Ty := ⟨1, 8, false, .other, [.nilFunc]⟩
def ty83 : Ty := ⟨4, 64, true, .struct [(0, 3), (1, 9), (2, 30), (3, 9)], [(.int .i64 0), (.string ByteArray.empty), (.slice none 0 0), (.string ByteArray.empty)]⟩
def ty87 : Ty := ⟨2, 16, true, .struct [(0, 3), (1, 25)], [(.int .i64 0), (.int .i64 0)]⟩
def ty89 : Ty := ⟨1, 8, false, .other, [.nilFunc]⟩
def ty95 : Ty := ⟨1, 24, false, .slice 9, [(.slice none 0 0)]⟩
def ty111 : Ty := ⟨1, 24, false, .slice 113, [(.slice none 0 0)]⟩
def ty113 : Ty := ⟨5, 80, true, .array 5 9, [(.string ByteArray.empty), (.string ByteArray.empty), (.string ByteArray.empty), (.string ByteArray.empty), (.string ByteArray.empty)]⟩
def ty121 : Ty := ⟨5, 40, true, .array 5 3, [(.int .i64 0), (.int .i64 0), (.int .i64 0), (.int .i64 0), (.int .i64 0)]⟩
def ty128 : Ty := ⟨3, 24, true, .struct [(0, 3), (1, 3), (2, 3)], [(.int .i64 0), (.int .i64 0), (.int .i64 0)]⟩
def ty130 : Ty := ⟨1, 8, false, .ptr 132, [(.pointer none)]⟩
def ty132 : Ty := ⟨2, 32, true, .struct [(0, 130), (1, 61)], [(.pointer none), (.slice none 0 0)]⟩
def ty134 : Ty := ⟨1, 16, false, .ifc false, [.nilIface]⟩
def ty142 : Ty := ⟨1, 8, false, .other, [.nilFunc]⟩
def ty145 : Ty := ⟨1, 8, false, .other, [.nilFunc]⟩
def ty150 : Ty := ⟨1, 8, false, .other, [.nilFunc]⟩
def ty154 : Ty := ⟨1, 8, false, .other, [.nilFunc]⟩
def ty157 : Ty := ⟨1, 8, false, .other, [.nilFunc]⟩
def ty159 : Ty := ⟨1, 8, false, .other, [.nilFunc]⟩
def ty161 : Ty := ⟨1, 24, false, .slice 95, [(.slice none 0 0)]⟩
def ty170 : Ty := ⟨1, 8, false, .other, [.nilFunc]⟩
def ty173 : Ty := ⟨1, 8, false, .other, [.nilFunc]⟩
def ty177 : Ty := ⟨1, 8, false, .other, [.nilFunc]⟩
def ty179 : Ty := ⟨3, 24, true, .struct [(0, 128)], [(.int .i64 0), (.int .i64 0), (.int .i64 0)]⟩
def ty192 : Ty := ⟨1, 8, false, .ptr 188, [(.pointer none)]⟩
def ty196 : Ty := ⟨1, 8, false, .int .u64, [(.int .u64 0)]⟩
def ty202 : Ty := ⟨2, 16, true, .struct [(0, 3), (1, 3)], [(.int .i64 0), (.int .i64 0)]⟩
def ty205 : Ty := ⟨1, 24, false, .slice 207, [(.slice none 0 0)]⟩
def ty207 : Ty := ⟨2, 16, true, .struct [(0, 3), (1, 3)], [(.int .i64 0), (.int .i64 0)]⟩
def ty208 : Ty := ⟨1, 4, false, .int .u32, [(.int .u32 0)]⟩
def ty210 : Ty := ⟨1, 8, false, .ptr 241, [(.pointer none)]⟩
def ty211 : Ty := ⟨1, 8, false, .other, [(.pointer none)]⟩
def ty215 : Ty := ⟨1, 24, false, .slice 22, [(.slice none 0 0)]⟩
def ty220 : Ty := ⟨1, 8, false, .int .i64, [(.int .i64 0)]⟩
def ty223 : Ty := ⟨1, 8, false, .ptr 254, [(.pointer none)]⟩
def ty227 : Ty := ⟨24, 24, true, .array 24 5, [(.int .u8 0), (.int .u8 0), (.int .u8 0), (.int .u8 0), (.int .u8 0), (.int .u8 0), (.int .u8 0), (.int .u8 0), (.int .u8 0), (.int .u8 0), (.int .u8 0), (.int .u8 0), (.int .u8 0), (.int .u8 0), (.int .u8 0), (.int .u8 0), (.int .u8 0), (.int .u8 0), (.int .u8 0), (.int .u8 0), (.int .u8 0), (.int .u8 0), (.int .u8 0), (.int .u8 0)]⟩
def ty228 : Ty := ⟨1, 8, false, .int .u64, [(.int .u64 0)]⟩
def ty238 : Ty := ⟨1, 24, false, .slice 243, [(.slice none 0 0)]⟩
def ty239 : Ty := ⟨1, 24, false, .slice 246, [(.slice none 0 0)]⟩
def ty241 : Ty := ⟨3, 56, true, .struct [(0, 238), (1, 239), (2, 3)], [(.slice none 0 0), (.slice none 0 0), (.int .i64 0)]⟩
def ty243 : Ty := ⟨3, 6, true, .struct [(0, 60), (1, 60), (2, 60)], [(.int .u16 0), (.int .u16 0), (.int .u16 0)]⟩
def ty246 : Ty := ⟨3, 12, true, .struct [(0, 208), (1, 208), (2, 208)], [(.int .u32 0), (.int .u32 0), (.int .u32 0)]⟩
def ty254 : Ty := ⟨3, 48, true, .struct [(0, 9), (1, 9), (2, 134)], [(.string ByteArray.empty), (.string ByteArray.empty), .nilIface]⟩
def ty259 : Ty := ⟨20, 160, true, .array 20 228, [(.int .u64 0), (.int .u64 0), (.int .u64 0), (.int .u64 0), (.int .u64 0), (.int .u64 0), (.int .u64 0), (.int .u64 0), (.int .u64 0), (.int .u64 0), (.int .u64 0), (.int .u64 0), (.int .u64 0), (.int .u64 0), (.int .u64 0), (.int .u64 0), (.int .u64 0), (.int .u64 0), (.int .u64 0), (.int .u64 0)]⟩
def ty265 : Ty := ⟨2, 2, true, .struct [(0, 5), (1, 5)], [(.int .u8 0), (.int .u8 0)]⟩
def ty266 : Ty := ⟨32, 32, true, .array 16 265, [(.int .u8 0), (.int .u8 0), (.int .u8 0), (.int .u8 0), (.int .u8 0), (.int .u8 0), (.int .u8 0), (.int .u8 0), (.int .u8 0), (.int .u8 0), (.int .u8 0), (.int .u8 0), (.int .u8 0), (.int .u8 0), (.int .u8 0), (.int .u8 0), (.int .u8 0), (.int .u8 0), (.int .u8 0), (.int .u8 0), (.int .u8 0), (.int .u8 0), (.int .u8 0), (.int .u8 0), (.int .u8 0), (.int .u8 0), (.int .u8 0), (.int .u8 0), (.int .u8 0), (.int .u8 0), (.int .u8 0), (.int .u8 0)]⟩
def ty269 : Ty := ⟨1, 8, false, .ptr 271, [(.pointer none)]⟩
def ty271 : Ty := ⟨1, 16, true, .struct [(0, 9)], [(.string ByteArray.empty)]⟩
def ty273 : Ty := ⟨32, 32, true, .array 32 5, [(.int .u8 0), (.int .u8 0), (.int .u8 0), (.int .u8 0), (.int .u8 0), (.int .u8 0), (.int .u8 0), (.int .u8 0), (.int .u8 0), (.int .u8 0), (.int .u8 0), (.int .u8 0), (.int .u8 0), (.int .u8 0), (.int .u8 0), (.int .u8 0), (.int .u8 0), (.int .u8 0), (.int .u8 0), (.int .u8 0), (.int .u8 0), (.int .u8 0), (.int .u8 0), (.int .u8 0), (.int .u8 0), (.int .u8 0), (.int .u8 0), (.int .u8 0), (.int .u8 0), (.int .u8 0), (.int .u8 0), (.int .u8 0)]⟩
def tyL : List (Nat × Ty) := [(2, ty2), (3, ty3), (4, ty4), (5, ty5), (9, ty9), (20, ty20), (21, ty21), (22, ty22), (24, ty24), (25, ty25), (30, ty30), (38, ty38), (40, ty40), (41, ty41), (60, ty60), (61, ty61), (64, ty64), (66, ty66), (68, ty68), (70, ty70), (71, ty71), (73, ty73), (76, ty76), (83, ty83), (87, ty87), (89, ty89), (95, ty95), (111, ty111), (113, ty113), (121, ty121), (128, ty128), (130, ty130), (132, ty132), (134, ty134), (142, ty142), (145, ty145), (150, ty150), (154, ty154), (157, ty157), (159, ty159), (161, ty161), (170, ty170), (173, ty173), (177, ty177), (179, ty179), (192, ty192), (196, ty196), (202, ty202), (205, ty205), (207, ty207), (208, ty208), (210, ty210), (211, ty211), (215, ty215), (220, ty220), (223, ty223), (227, ty227), (228, ty228), (238, ty238), (239, ty239), (241, ty241), (243, ty243), (246, ty246), (254, ty254), (259, ty259), (265, ty265), (266, ty266), (269, ty269), (271, ty271), (273, ty273)]
def eqL : List (Nat × List CK) := [(66, [.int, .int]), (68, [.int, .int, .int, .int]), (70, [.str, .int, .int, .int, .int]), (87, [.int, .int]), (128, [.int, .int, .int]), (179, [.int, .int, .int]), (202, [.int, .int]), (207, [.int, .int]), (243, [.int, .int, .int]), (246, [.int, .int, .int]), (265, [.int, .int]), (271, [.str])]
def tys : Tys := lk tyL
def eqs : Eqs := lk eqL
theorem gok : GOk prog tys := gok_of (by kernel_rfl)
theorem eok : EqOk prog eqs := eqok_of (by kernel_rfl)
theorem mixed : prog.follows .mixedOrders = true := by kernel_rfl
@[simp] theorem g2 : tys 2 = some ⟨1, 8, false, .int .i64, [(.int .i64 0)]⟩ := nrfl rfl
@[simp] theorem g3 : tys 3 = some ⟨1, 8, false, .int .i64, [(.int .i64 0)]⟩ := nrfl rfl
@[simp] theorem g4 : tys 4 = some ⟨1, 1, false, .bool, [(.bool false)]⟩ := nrfl rfl
@[simp] theorem g5 : tys 5 = some ⟨1, 1, false, .int .u8, [(.int .u8 0)]⟩ := nrfl rfl
@[simp] theorem g9 : tys 9 = some ⟨1, 16, false, .str, [(.string ByteArray.empty)]⟩ := nrfl rfl
@[simp] theorem g20 : tys 20 = some ⟨1, 16, false, .ifc true, [.nilIface]⟩ := nrfl rfl
@[simp] theorem g21 : tys 21 = some ⟨1, 4, false, .int .i32, [(.int .i32 0)]⟩ := nrfl rfl
@[simp] theorem g22 : tys 22 = some ⟨1, 24, false, .slice 83, [(.slice none 0 0)]⟩ := nrfl rfl
@[simp] theorem g24 : tys 24 = some ⟨2, 40, true, .struct [(0, 9), (1, 22)], [(.string ByteArray.empty), (.slice none 0 0)]⟩ := nrfl rfl
@[simp] theorem g25 : tys 25 = some ⟨1, 8, false, .int .i64, [(.int .i64 0)]⟩ := nrfl rfl
@[simp] theorem g30 : tys 30 = some ⟨1, 24, false, .slice 3, [(.slice none 0 0)]⟩ := nrfl rfl
@[simp] theorem g38 : tys 38 = some ⟨1, 24, false, .slice 70, [(.slice none 0 0)]⟩ := nrfl rfl
@[simp] theorem g40 : tys 40 = some ⟨2, 40, true, .struct [(0, 9), (1, 38)], [(.string ByteArray.empty), (.slice none 0 0)]⟩ := nrfl rfl
@[simp] theorem g41 : tys 41 = some ⟨1, 24, false, .slice 128, [(.slice none 0 0)]⟩ := nrfl rfl
@[simp] theorem g60 : tys 60 = some ⟨1, 2, false, .int .u16, [(.int .u16 0)]⟩ := nrfl rfl
@[simp] theorem g61 : tys 61 = some ⟨1, 24, false, .slice 5, [(.slice none 0 0)]⟩ := nrfl rfl
@[simp] theorem g64 : tys 64 = some ⟨1, 24, false, .slice 68, [(.slice none 0 0)]⟩ := nrfl rfl
@[simp] theorem g66 : tys 66 = some ⟨2, 16, true, .struct [(0, 3), (1, 3)], [(.int .i64 0), (.int .i64 0)]⟩ := nrfl rfl
@[simp] theorem g68 : tys 68 = some ⟨4, 32, true, .struct [(0, 66), (2, 66)], [(.int .i64 0), (.int .i64 0), (.int .i64 0), (.int .i64 0)]⟩ := nrfl rfl
@[simp] theorem g70 : tys 70 = some ⟨5, 48, true, .struct [(0, 9), (1, 68)], [(.string ByteArray.empty), (.int .i64 0), (.int .i64 0), (.int .i64 0), (.int .i64 0)]⟩ := nrfl rfl
@[simp] theorem g71 : tys 71 = some ⟨1, 24, false, .slice 202, [(.slice none 0 0)]⟩ := nrfl rfl
@[simp] theorem g73 : tys 73 = some ⟨2, 32, true, .struct [(0, 3), (1, 71)], [(.int .i64 0), (.slice none 0 0)]⟩ := nrfl rfl
@[simp] theorem g76 : tys 76 = some ⟨1, 8, false, .other, [.nilFunc]⟩ := nrfl rfl
@[simp] theorem g83 : tys 83 = some ⟨4, 64, true, .struct [(0, 3), (1, 9), (2, 30), (3, 9)], [(.int .i64 0), (.string ByteArray.empty), (.slice none 0 0), (.string ByteArray.empty)]⟩ := nrfl rfl
@[simp] theorem g87 : tys 87 = some ⟨2, 16, true, .struct [(0, 3), (1, 25)], [(.int .i64 0), (.int .i64 0)]⟩ := nrfl rfl
@[simp] theorem g89 : tys 89 = some ⟨1, 8, false, .other, [.nilFunc]⟩ := nrfl rfl
@[simp] theorem g95 : tys 95 = some ⟨1, 24, false, .slice 9, [(.slice none 0 0)]⟩ := nrfl rfl
@[simp] theorem g111 : tys 111 = some ⟨1, 24, false, .slice 113, [(.slice none 0 0)]⟩ := nrfl rfl
@[simp] theorem g113 : tys 113 = some ⟨5, 80, true, .array 5 9, [(.string ByteArray.empty), (.string ByteArray.empty), (.string ByteArray.empty), (.string ByteArray.empty), (.string ByteArray.empty)]⟩ := nrfl rfl
@[simp] theorem g121 : tys 121 = some ⟨5, 40, true, .array 5 3, [(.int .i64 0), (.int .i64 0), (.int .i64 0), (.int .i64 0), (.int .i64 0)]⟩ := nrfl rfl
@[simp] theorem g128 : tys 128 = some ⟨3, 24, true, .struct [(0, 3), (1, 3), (2, 3)], [(.int .i64 0), (.int .i64 0), (.int .i64 0)]⟩ := nrfl rfl
@[simp] theorem g130 : tys 130 = some ⟨1, 8, false, .ptr 132, [(.pointer none)]⟩ := nrfl rfl
@[simp] theorem g132 : tys 132 = some ⟨2, 32, true, .struct [(0, 130), (1, 61)], [(.pointer none), (.slice none 0 0)]⟩ := nrfl rfl
@[simp] theorem g134 : tys 134 = some ⟨1, 16, false, .ifc false, [.nilIface]⟩ := nrfl rfl
@[simp] theorem g142 : tys 142 = some ⟨1, 8, false, .other, [.nilFunc]⟩ := nrfl rfl
@[simp] theorem g145 : tys 145 = some ⟨1, 8, false, .other, [.nilFunc]⟩ := nrfl rfl
@[simp] theorem g150 : tys 150 = some ⟨1, 8, false, .other, [.nilFunc]⟩ := nrfl rfl
@[simp] theorem g154 : tys 154 = some ⟨1, 8, false, .other, [.nilFunc]⟩ := nrfl rfl
@[simp] theorem g157 : tys 157 = some ⟨1, 8, false, .other, [.nilFunc]⟩ := nrfl rfl
@[simp] theorem g159 : tys 159 = some ⟨1, 8, false, .other, [.nilFunc]⟩ := nrfl rfl
@[simp] theorem g161 : tys 161 = some ⟨1, 24, false, .slice 95, [(.slice none 0 0)]⟩ := nrfl rfl
@[simp] theorem g170 : tys 170 = some ⟨1, 8, false, .other, [.nilFunc]⟩ := nrfl rfl
@[simp] theorem g173 : tys 173 = some ⟨1, 8, false, .other, [.nilFunc]⟩ := nrfl rfl
@[simp] theorem g177 : tys 177 = some ⟨1, 8, false, .other, [.nilFunc]⟩ := nrfl rfl
@[simp] theorem g179 : tys 179 = some ⟨3, 24, true, .struct [(0, 128)], [(.int .i64 0), (.int .i64 0), (.int .i64 0)]⟩ := nrfl rfl
@[simp] theorem g192 : tys 192 = some ⟨1, 8, false, .ptr 188, [(.pointer none)]⟩ := nrfl rfl
@[simp] theorem g196 : tys 196 = some ⟨1, 8, false, .int .u64, [(.int .u64 0)]⟩ := nrfl rfl
@[simp] theorem g202 : tys 202 = some ⟨2, 16, true, .struct [(0, 3), (1, 3)], [(.int .i64 0), (.int .i64 0)]⟩ := nrfl rfl
@[simp] theorem g205 : tys 205 = some ⟨1, 24, false, .slice 207, [(.slice none 0 0)]⟩ := nrfl rfl
@[simp] theorem g207 : tys 207 = some ⟨2, 16, true, .struct [(0, 3), (1, 3)], [(.int .i64 0), (.int .i64 0)]⟩ := nrfl rfl
@[simp] theorem g208 : tys 208 = some ⟨1, 4, false, .int .u32, [(.int .u32 0)]⟩ := nrfl rfl
@[simp] theorem g210 : tys 210 = some ⟨1, 8, false, .ptr 241, [(.pointer none)]⟩ := nrfl rfl
@[simp] theorem g211 : tys 211 = some ⟨1, 8, false, .other, [(.pointer none)]⟩ := nrfl rfl
@[simp] theorem g215 : tys 215 = some ⟨1, 24, false, .slice 22, [(.slice none 0 0)]⟩ := nrfl rfl
@[simp] theorem g220 : tys 220 = some ⟨1, 8, false, .int .i64, [(.int .i64 0)]⟩ := nrfl rfl
@[simp] theorem g223 : tys 223 = some ⟨1, 8, false, .ptr 254, [(.pointer none)]⟩ := nrfl rfl
@[simp] theorem g227 : tys 227 = some ⟨24, 24, true, .array 24 5, [(.int .u8 0), (.int .u8 0), (.int .u8 0), (.int .u8 0), (.int .u8 0), (.int .u8 0), (.int .u8 0), (.int .u8 0), (.int .u8 0), (.int .u8 0), (.int .u8 0), (.int .u8 0), (.int .u8 0), (.int .u8 0), (.int .u8 0), (.int .u8 0), (.int .u8 0), (.int .u8 0), (.int .u8 0), (.int .u8 0), (.int .u8 0), (.int .u8 0), (.int .u8 0), (.int .u8 0)]⟩ := nrfl rfl
@[simp] theorem g228 : tys 228 = some ⟨1, 8, false, .int .u64, [(.int .u64 0)]⟩ := nrfl rfl
@[simp] theorem g238 : tys 238 = some ⟨1, 24, false, .slice 243, [(.slice none 0 0)]⟩ := nrfl rfl
@[simp] theorem g239 : tys 239 = some ⟨1, 24, false, .slice 246, [(.slice none 0 0)]⟩ := nrfl rfl
@[simp] theorem g241 : tys 241 = some ⟨3, 56, true, .struct [(0, 238), (1, 239), (2, 3)], [(.slice none 0 0), (.slice none 0 0), (.int .i64 0)]⟩ := nrfl rfl
@[simp] theorem g243 : tys 243 = some ⟨3, 6, true, .struct [(0, 60), (1, 60), (2, 60)], [(.int .u16 0), (.int .u16 0), (.int .u16 0)]⟩ := nrfl rfl
@[simp] theorem g246 : tys 246 = some ⟨3, 12, true, .struct [(0, 208), (1, 208), (2, 208)], [(.int .u32 0), (.int .u32 0), (.int .u32 0)]⟩ := nrfl rfl
@[simp] theorem g254 : tys 254 = some ⟨3, 48, true, .struct [(0, 9), (1, 9), (2, 134)], [(.string ByteArray.empty), (.string ByteArray.empty), .nilIface]⟩ := nrfl rfl
@[simp] theorem g259 : tys 259 = some ⟨20, 160, true, .array 20 228, [(.int .u64 0), (.int .u64 0), (.int .u64 0), (.int .u64 0), (.int .u64 0), (.int .u64 0), (.int .u64 0), (.int .u64 0), (.int .u64 0), (.int .u64 0), (.int .u64 0), (.int .u64 0), (.int .u64 0), (.int .u64 0), (.int .u64 0), (.int .u64 0), (.int .u64 0), (.int .u64 0), (.int .u64 0), (.int .u64 0)]⟩ := nrfl rfl
@[simp] theorem g265 : tys 265 = some ⟨2, 2, true, .struct [(0, 5), (1, 5)], [(.int .u8 0), (.int .u8 0)]⟩ := nrfl rfl
@[simp] theorem g266 : tys 266 = some ⟨32, 32, true, .array 16 265, [(.int .u8 0), (.int .u8 0), (.int .u8 0), (.int .u8 0), (.int .u8 0), (.int .u8 0), (.int .u8 0), (.int .u8 0), (.int .u8 0), (.int .u8 0), (.int .u8 0), (.int .u8 0), (.int .u8 0), (.int .u8 0), (.int .u8 0), (.int .u8 0), (.int .u8 0), (.int .u8 0), (.int .u8 0), (.int .u8 0), (.int .u8 0), (.int .u8 0), (.int .u8 0), (.int .u8 0), (.int .u8 0), (.int .u8 0), (.int .u8 0), (.int .u8 0), (.int .u8 0), (.int .u8 0), (.int .u8 0), (.int .u8 0)]⟩ := nrfl rfl
@[simp] theorem g269 : tys 269 = some ⟨1, 8, false, .ptr 271, [(.pointer none)]⟩ := nrfl rfl
@[simp] theorem g271 : tys 271 = some ⟨1, 16, true, .struct [(0, 9)], [(.string ByteArray.empty)]⟩ := nrfl rfl
@[simp] theorem g273 : tys 273 = some ⟨32, 32, true, .array 32 5, [(.int .u8 0), (.int .u8 0), (.int .u8 0), (.int .u8 0), (.int .u8 0), (.int .u8 0), (.int .u8 0), (.int .u8 0), (.int .u8 0), (.int .u8 0), (.int .u8 0), (.int .u8 0), (.int .u8 0), (.int .u8 0), (.int .u8 0), (.int .u8 0), (.int .u8 0), (.int .u8 0), (.int .u8 0), (.int .u8 0), (.int .u8 0), (.int .u8 0), (.int .u8 0), (.int .u8 0), (.int .u8 0), (.int .u8 0), (.int .u8 0), (.int .u8 0), (.int .u8 0), (.int .u8 0), (.int .u8 0), (.int .u8 0)]⟩ := nrfl rfl
@[simp] theorem e66 : eqs 66 = some [.int, .int] := nrfl rfl
@[simp] theorem e68 : eqs 68 = some [.int, .int, .int, .int] := nrfl rfl
@[simp] theorem e70 : eqs 70 = some [.str, .int, .int, .int, .int] := nrfl rfl
@[simp] theorem e87 : eqs 87 = some [.int, .int] := nrfl rfl
@[simp] theorem e128 : eqs 128 = some [.int, .int, .int] := nrfl rfl
@[simp] theorem e179 : eqs 179 = some [.int, .int, .int] := nrfl rfl
@[simp] theorem e202 : eqs 202 = some [.int, .int] := nrfl rfl
@[simp] theorem e207 : eqs 207 = some [.int, .int] := nrfl rfl
@[simp] theorem e243 : eqs 243 = some [.int, .int, .int] := nrfl rfl
@[simp] theorem e246 : eqs 246 = some [.int, .int, .int] := nrfl rfl
@[simp] theorem e265 : eqs 265 = some [.int, .int] := nrfl rfl
@[simp] theorem e271 : eqs 271 = some [.str] := nrfl rfl
theorem CB {f : FuncId} {fn : Func} {p : PC} {args : List V} {r : V} {H1 : List (Nat × List V)} (hf : prog.funcs[f]? = some fn) (hc : fn.body.bind (comp fn.ntmps) = some p) (h : ∀ E : Ent, (∀ i, ¬ E.stab i) -> PW prog tys eqs E p (retQ tys fn r H1) ⟨argF 0 args, fun _ => none, 0⟩) (hn : args.length <= fn.ntmps := by exact Nat.le_of_ble_eq_true rfl) (hname : (fn.name == "runtime.NumGoroutine") = false := by rfl) (hcl : ∀ v ∈ args, Closed v := by simp) (hri : ResIds r H1 := by simp [ResIds]) : Ct prog f args r H1 :=
 Ct.by gok eok mixed hf hc hname hn hcl hri h
theorem CM {f : FuncId} {fn : Func} {p : PC} {args : List V} {Hin : List (Nat × List V)} {ks : List Nat} {res : Res} {H1 : List (Nat × List V)} (N : Nat) (hf : prog.funcs[f]? = some fn) (hc : fn.body.bind (comp fn.ntmps) = some p) (h : ∀ E : Ent, (∀ i, E.stab i ↔ i ∈ ks) -> E.nt = fn.ntmps /\ E.rq -> PW prog tys eqs E p (retM tys fn ks res H1) ⟨argF 0 args, lk Hin, N⟩) (hn : args.length <= fn.ntmps := by exact Nat.le_of_ble_eq_true rfl) (hname : (fn.name == "runtime.NumGoroutine") = false := by rfl) (hcl : ∀ v ∈ args, A2 (· < N) anyD v := by simp) (hids : HpIds N Hin := by simp) (hks : ∀ i ∈ ks, i < N := by simp) (hri : ResIds res.v H1 := by simp [ResIds]) : Cm prog f args (lk Hin) ks res (lk H1) :=
 Cm.by gok eok mixed N hf hc hname hn hcl (HpIds.at hids) hks hri h
abbrev vi (n : Int) : V := .d (.lit (.int .i64 n))
abbrev vb (b : Bool) : V := .d (.lit (.bool b))
abbrev di (n : Int) : D := .lit (.int .i64 n)
abbrev vsp (a b : Int) : V := .agg [vi a, vi b]
end Go.Proofs.Tryz
namespace Go.Psl
variable {P : Program} {G : Gh} {W : World} {H : Hp}
def fzIm (G : Gh) (H : Hp) (b : Nat) : Prop := G.Im b \/ ∃ i, InH H i /\ G.ph i = false /\ G.β i = b
theorem fz0 (hp : ∀ id cs, H id = some cs -> HB G W id cs) {v c : V} {x : Value} (hb : Bor0 H v c) (hx : RV G W v x) : R0 { G with Im := fzIm G H } W c x := by
 have him : ∀ b, G.Im b -> fzIm G H b /\ W.heap[b]? = W.heap[b]? := fun b hb => ⟨.inl hb, rfl⟩
 have hless : ∀ i cs, H i = some cs -> H i = some cs /\ True := fun i cs h => by
   exact ⟨h, trivial⟩
 unfold Bor0 at hb
 split at hb
 . rename_i y z
   rcases hb with rfl | ⟨rfl, sz, rfl⟩
   . exact RD.mono (x := y) hx him
   . have := rv_lit hx
     subst this
     exact RD.sl sz [] none 0 (fun _ _ => undef) (by simp) (by simp [maxL]) (by simp) (by simp) (by simp)
 . rename_i id off len sz sz' es
   obtain ⟨rfl, hl, hes, cs, hh0, hcs⟩ := hb
   obtain ⟨hh, hnin⟩ := hless _ _ hh0
   obtain ⟨hml, ⟨hph, h0, rfl⟩ | ⟨hph, o', cap, rfl, hcap, hoff⟩⟩ := hx
   . have : es = [] := List.eq_nil_of_length_eq_zero (by omega)
     subst this
     exact RD.sl sz' [] none 0 (fun _ _ => undef) (by simp) (by simp [maxL]) (by simp) (by simp) (by simp)
   . obtain ⟨_, c, T, ⟨fz, hg, _⟩, hbs, hcl, hcr, _⟩ := (hp id cs hh).read hph
     have hfl := flatten_len es hes
     have hlen : ((cs.drop off).take (len * sz')).length = len * sz' := by rw [hcs, List.length_map, hfl, hl]
     have hfit : off + len * sz' <= cs.length \/ len * sz' = 0 := by simp at hlen; omega
     subst hl
     refine RD.sl sz' es (some ⟨G.β id, o', none⟩) cap (fun i j => c.toList.getD (off + i * sz' + j) undef) hes hml hcap (fun i e he => ⟨_, rfl, .inr ⟨id, by show (H id).isSome = true; rw [hh]; rfl, hph.1, rfl⟩, fun j y hy => ?_⟩) (fun i e he j y hy => ?_)
     all_goals
       have hil : i < es.length := (List.getElem?_eq_some_iff.1 he).1
       have hel := hes e (List.mem_of_getElem? he)
       have hjl : j < sz' := by have := (List.getElem?_eq_some_iff.1 hy).1; omega
       have hij : i * sz' + j < es.length * sz' := by
         have : (i + 1) * sz' <= es.length * sz' := Nat.mul_le_mul_right _ hil
         rw [Nat.add_mul] at this; omega
       have hfit' : off + es.length * sz' <= cs.length := by omega
       have hcell : cs[off + (i * sz' + j)]? = some (.d y) := by
         have h1 : ((cs.drop off).take (es.length * sz'))[i * sz' + j]? = some (V.d y) := by
           rw [hcs, List.getElem?_map, flatten_get (by omega) es hes]
           have e1 : (i * sz' + j) / sz' = i := by rw [Nat.add_comm, Nat.add_mul_div_right _ _ (by omega), Nat.div_eq_of_lt hjl]; omega
           have e2 : (i * sz' + j) % sz' = j := by rw [Nat.add_comm, Nat.add_mul_mod_self_right, Nat.mod_eq_of_lt hjl]
           rw [e1, e2, he]; simp [hy]
         rw [List.getElem?_take, if_pos hij, List.getElem?_drop] at h1
         exact h1
       obtain ⟨u, hu, hru⟩ := hcr.get hcell
       rw [List.getElem?_take] at hu
       split at hu
       rotate_left
       . cases hu
     . obtain ⟨rfl, _⟩ := hoff (by omega)
       rw [add_plain]
       simp only [World.cell?, hg]
       rw [Array.getElem?_toList] at hu
       have h2 : c.toList.getD (o' + i * sz' + j) undef = u := by
         rw [List.getD_eq_getElem?_getD, Array.getElem?_toList, show o' + i * sz' + j = o' + (i * sz' + j) by omega, hu]; rfl
       rw [h2]
       simpa using hu
     . have h2 : c.toList.getD (off + i * sz' + j) undef = u := by
         rw [List.getD_eq_getElem?_getD, show off + i * sz' + j = off + (i * sz' + j) by omega, hu]; rfl
       show RD _ _ y (c.toList.getD (off + i * sz' + j) undef)
       rw [h2]
       exact RD.mono (x := y) hru him
 . rename_i id off ds
   obtain ⟨cs, hh0, hcs⟩ := hb
   obtain ⟨hh, hnin⟩ := hless _ _ hh0
   obtain ⟨hph, rfl⟩ : (G.ph id = false /\ G.lo id = false) /\ x = .pointer (some ⟨G.β id, off, none⟩) := hx
   obtain ⟨_, c, T, ⟨fz, hg, _⟩, hbs, hcl, hcr, _⟩ := (hp id cs hh).read hph
   have get : ∀ (j : Nat) y, ds[j]? = some y -> ∃ u, c.toList[off + j]? = some u /\ RD (fzIm G H) W y u := fun j y hy => by
     have hj := (List.getElem?_eq_some_iff.1 hy).1
     have h1 : ((cs.drop off).take ds.length)[j]? = some (V.d y) := by rw [hcs, List.getElem?_map, hy]; rfl
     rw [List.getElem?_take, if_pos hj, List.getElem?_drop] at h1
     obtain ⟨u, hu, hru⟩ := hcr.get h1
     rw [List.getElem?_take] at hu
     split at hu
     . exact ⟨u, hu, RD.mono (x := y) hru him⟩
     . cases hu
   refine RD.ref ds _ (fun j => c.toList.getD (off + j) undef) (.inr ⟨id, by show (H id).isSome = true; rw [hh]; rfl, hph.1, rfl⟩) (fun j y hy => ?_) (fun j y hy => ?_)
   . obtain ⟨u, hu, _⟩ := get j y hy
     rw [add_plain, List.getD_eq_getElem?_getD, hu]
     simp only [World.cell?, hg]
     simpa using hu
   . obtain ⟨u, hu, hr⟩ := get j y hy
     rw [List.getD_eq_getElem?_getD, hu]
     exact hr
 . rename_i f caps g ds
   obtain ⟨rfl, rfl⟩ := hb
   obtain ⟨cv, rfl, hcr⟩ := hx
   have hl := hcr.length
   refine RD.fn f ds cv (by simpa using hl.symm) fun j y v hy hv => ?_
   have h1 : (ds.map V.d)[j]? = some (V.d y) := by rw [List.getElem?_map, hy]; rfl
   obtain ⟨u, hu, hru⟩ := hcr.get h1
   rw [Array.getElem?_toList, hv] at hu
   cases hu
   exact RD.mono (x := y) hru him
 . obtain ⟨rfl, rfl⟩ := hb; exact hx
 . obtain ⟨rfl, rfl, rfl, rfl⟩ := hb; exact hx
 . have hb : _ = _ := hb; subst hb; exact hx
 . exact hb.elim
def FzC (H : Hp) (v c : V) : Prop := ∃ y, c = .d y /\ Bor0 H v (.d y)
def FzR (H : Hp) (v c : V) : Prop := Bor0 H v c \/ ∃ id off cs ds, v = .lp id off /\ c = .d (.ref ds) /\ H id = some cs /\ All2 (fun c y => Bor0 H c (.d y)) ((cs.drop off).take ds.length) ds
theorem fz0r (hp : ∀ id cs, H id = some cs -> HB G W id cs) {v c : V} {x : Value} (hb : FzR H v c) (hx : RV G W v x) : R0 { G with Im := fzIm G H } W c x := by
 rcases hb with hb | ⟨id, off, cs, ds, rfl, rfl, hh, hcs⟩
 . exact fz0 hp hb hx
 obtain ⟨hph, rfl⟩ : (G.ph id = false /\ G.lo id = false) /\ x = .pointer (some ⟨G.β id, off, none⟩) := hx
 obtain ⟨_, c, T, ⟨fz, hg, _⟩, hbs, hcl, hcr, _⟩ := (hp id cs hh).read hph
 have get : ∀ (j : Nat) y, ds[j]? = some y -> ∃ u, c.toList[off + j]? = some u /\ RD (fzIm G H) W y u := fun j y hy => by
   obtain ⟨v, hv, hvy⟩ := hcs.get2 hy
   have hj := (List.getElem?_eq_some_iff.1 hy).1
   rw [List.getElem?_take, if_pos hj, List.getElem?_drop] at hv
   obtain ⟨u, hu, hru⟩ := hcr.get hv
   rw [List.getElem?_take] at hu
   split at hu
   . exact ⟨u, hu, fz0 hp hvy (R2.rv (R1.r2 hru))⟩
   . cases hu
 refine RD.ref ds _ (fun j => c.toList.getD (off + j) undef) (.inr ⟨id, by show (H id).isSome = true; rw [hh]; rfl, hph.1, rfl⟩) (fun j y hy => ?_) (fun j y hy => ?_)
 . obtain ⟨u, hu, _⟩ := get j y hy
   rw [add_plain, List.getD_eq_getElem?_getD, hu]
   simp only [World.cell?, hg]
   simpa using hu
 . obtain ⟨u, hu, hr⟩ := get j y hy
   rw [List.getD_eq_getElem?_getD, hu]
   exact hr
def Fz1 (H : Hp) : V -> V -> Prop
 | .agg cs, .agg ds => All2 (FzC H) cs ds
 | .cl f caps, .d (.fn g ds) => f = g /\ All2 (FzR H) caps (ds.map .d)
 | v, .d y => Bor0 H v (.d y)
 | _, _ => False
def Fz (H : Hp) : V -> V -> Prop
 | .tup vs, .tup ws => All2 (Fz1 H) vs ws
 | v, w => Fz1 H v w
theorem fz1 (hp : ∀ id cs, H id = some cs -> HB G W id cs) {v c : V} {x : Value} (hb : Fz1 H v c) (hx : R2 G W v x) : R2 { G with Im := fzIm G H } W c x := by
 unfold Fz1 at hb
 split at hb
 . rename_i cs ds
   obtain ⟨cv, rfl, hr⟩ := hx
   refine ⟨cv, rfl, All2.of_get (by rw [<- hb.length, hr.length]) fun i d z hd hz => ?_⟩
   obtain ⟨c, hc, y, rfl, hy⟩ := hb.get2 hd
   obtain ⟨u, hu, hru⟩ := hr.get hc
   rw [hz] at hu; cases hu
   exact R0.r1 (fz0 hp hy (R2.rv (R1.r2 hru)))
 . rename_i f caps g ds
   obtain ⟨rfl, hc⟩ := hb
   obtain ⟨cv, rfl, hr⟩ := hx
   have hl : cv.size = ds.length := by have h1 := hc.length; have h2 := hr.length; simp at h1 h2; omega
   refine RD.fn f ds cv hl fun j y z hy hz => ?_
   obtain ⟨c, hcj, hcy⟩ := hc.get2 (show (ds.map V.d)[j]? = some (.d y) by rw [List.getElem?_map, hy]; rfl)
   obtain ⟨u, hu, hru⟩ := hr.get hcj
   rw [Array.getElem?_toList, hz] at hu; cases hu
   exact fz0r hp hcy (R2.rv (R1.r2 (R0.r1 hru)))
 . refine R1.r2 (R0.r1 (fz0 hp hb (R2.rv hx)))
 . exact hb.elim
theorem fz1_wf {v c : V} (hb : Fz1 H v c) : A2 (fun _ => False) anyD c := by
 unfold Fz1 at hb
 split at hb
 . rename_i cs ds
   intro d hd
   obtain ⟨i, hi⟩ := List.getElem?_of_mem hd
   obtain ⟨c, _, y, rfl, _⟩ := hb.get2 hi
   trivial
 . trivial
 . trivial
 . exact hb.elim
theorem fz_rel (hp : ∀ id cs, H id = some cs -> HB G W id cs) {v c : V} {x : Value} (hb : Fz H v c) (hx : RV G W v x) : RV { G with Im := fzIm G H } W c x := by
 unfold Fz at hb
 split at hb
 . rename_i vs ws
   obtain ⟨cv, rfl, hr⟩ := hx
   refine ⟨cv, rfl, All2.of_get (by rw [<- hb.length, hr.length]) fun i y z hy hz => ?_⟩
   obtain ⟨w, hw, hbw⟩ := hb.get2 hy
   obtain ⟨u, hu, hru⟩ := hr.get hw
   rw [hz] at hu; cases hu
   exact fz1 hp hbw hru
 . refine R2.rv (fz1 hp hb ?_)
   cases v <;> first | exact hx | (exfalso; revert hb; cases c <;> simp [Fz1, Bor0]; done)
theorem fz_wf {v c : V} (hb : Fz H v c) : AV (fun _ => False) anyD c := by
 unfold Fz at hb
 split at hb
 . rename_i vs ws
   intro w hw
   obtain ⟨i, hi⟩ := List.getElem?_of_mem hw
   obtain ⟨u, _, hu⟩ := hb.get2 hi
   exact fz1_wf hu
 . have := fz1_wf hb
   cases c <;> first | exact this | (revert hb; simp [Fz1]; done)
theorem Cm.freeze {f : FuncId} {args : List V} {Hin : Hp} {r r' : V} {H1 : Hp} (h : Cm P f args Hin [] (.ret r) H1) (hf : Fz H1 r r') : Cm P f args Hin [] (.ret r') (fun _ => none) := by
 refine ⟨h.1, fun G W xs him hargs hpre => Calls.mono (h.2 G W xs him hargs hpre) fun e W' ⟨G', p⟩ => ?_⟩
 have hB : ∀ id cs, H1 id = some cs -> HB G' W' id cs := fun id cs hid => (p.hb id cs hid).1
 have hblk : ∀ i, InH H1 i -> G'.ph i = false -> G'.β i < W'.heap.size := fun i hi hph => by
   cases hc : H1 i with
   | none => simp [InH, hc] at hi
   | some cs =>
     rcases hB i cs hc with ⟨h1, _⟩ | ⟨_, _, _, c, T, h3, _⟩ | ⟨_, _, _, ⟨_, fr, nt, ps, pa, pb, jmp, rec, _, h4, _⟩ | ⟨_, es, ms, ck, _, h4, _⟩ | ⟨_, bx, bp, bv, _, h4, _⟩⟩
     . rw [h1] at hph; cases hph
     . exact (Array.getElem?_eq_some_iff.1 h3.choose_spec.1).1
     . exact (Array.getElem?_eq_some_iff.1 h4).1
     . exact (Array.getElem?_eq_some_iff.1 h4).1
     . exact (Array.getElem?_eq_some_iff.1 h4).1
 refine ⟨{ G' with Im := fzIm G' H1 }, p.os, p.tape, p.output, p.drawn, p.size, p.block, fun b hb => ?_, fun b hb => .inl (p.im0 b hb), ?_, ?_, fun i cs h => (by cases h), fun i j h => (by simp [InH] at h), fun i h => (by cases h)⟩
 . rcases hb with hb | ⟨i, hi, hph, rfl⟩
   . exact p.im b hb
   . refine ⟨hblk i hi hph, .inr ?_⟩
     cases hc : H1 i with
     | none => simp [InH, hc] at hi
     | some cs => exact (p.hb i cs hc).2.1 hph
 . have hrv := p.rv
   cases e with
   | returned v => exact fz_rel hB hf hrv
   | _ => exact hrv.elim
 . show AV (InH fun _ => none) anyD r'
   exact AV.mono (fun _ h => h.elim) (fun _ h => h) (fz_wf hf)
end Go.Psl
namespace Go.Psl
variable {Γ : Tys} {eqs : Eqs} {H : Hp} {t : TypeId} {b : Nat}
theorem appF_nil {p : Option Addr} {n c : Nat} {x : V} : appF Γ H b t (.d (.lit (.slice p n c))) x = (Γ t).bind fun y => match y.sh with
 | .slice e => (Γ e).bind fun ye => if ye.size = 0 \/ sameId (.d (.lit (.slice p n c))) x = true then none else (cellsOf H ye.size x).bind fun nx => if nx.2.all V.isCell then (if nx.1 * ye.bytes <= maxA /\ nx.1 <= maxL then some (.ls b 0 nx.1 ye.size, .new b nx.2) else none) else none
 | _ => none := nrfl rfl
theorem sameId_nil {D' : D} {x : V} : sameId (.d D') x = false := nrfl rfl
theorem appF_ls {id len sz : Nat} {x : V} : appF Γ H b t (.ls id 0 len sz) x = (Γ t).bind fun y => match y.sh with
 | .slice e => (Γ e).bind fun ye => if ye.size = 0 \/ sameId (.ls id 0 len sz) x = true then none else (cellsOf H ye.size x).bind fun nx => if nx.2.all V.isCell then
     (if sz = ye.size then (H id).bind fun cs => if len * sz <= cs.length /\ (len + nx.1) * ye.bytes <= maxA /\ len + nx.1 <= maxL then some (.ls b 0 (len + nx.1) sz, .mov id b (cs.take (len * sz) ++ nx.2)) else none else none) else none
 | _ => none := nrfl rfl
theorem sameId_ls {i o l z i' o' l' z' : Nat} : sameId (.ls i o l z) (.ls i' o' l' z') = (i == i') := nrfl rfl
theorem sameId_d {i o l z : Nat} {x : D} : sameId (.ls i o l z) (.d x) = false := nrfl rfl
theorem cellsOf_nil {sz : Nat} {p : Option Addr} {n c : Nat} : cellsOf H sz (.d (.lit (.slice p n c))) = some (0, []) := nrfl rfl
theorem cellsOf_sl {sz sz' : Nat} {es : List (List D)} : cellsOf H sz (.d (.sl sz' es)) = if sz = sz' then some (es.length, es.flatten.map .d) else none := nrfl rfl
theorem cellsOf_ls {sz sz' id off len : Nat} : cellsOf H sz (.ls id off len sz') = if sz = sz' then (H id).bind fun cs => if off + len * sz <= cs.length then some (len, (cs.drop off).take (len * sz)) else none else none := nrfl rfl
theorem pack_nil : pack [] = .tup [] := nrfl rfl
theorem WV_tupnil {ρ : Nat -> Option Nat} : WV ρ (.tup []) (.tup []) := by simp
attribute [simp] pack_nil WV_tupnil appF_nil appF_ls sameId_ls sameId_d sameId_nil cellsOf_nil cellsOf_sl cellsOf_ls
theorem wc_data {ρ : Nat -> Option Nat} (x : D) : WC ρ (.d x) (.d x) := by simp
theorem all2_data {ρ : Nat -> Option Nat} {xs ys : List V} : ∀ ds : List D, All2 (WC ρ) (ds.map .d ++ xs) (ds.map .d ++ ys) = All2 (WC ρ) xs ys
 | [] => rfl
 | d :: ds => by
   show (WC ρ (.d d) (.d d) /\ All2 (WC ρ) (ds.map .d ++ xs) (ds.map .d ++ ys)) = _
   rw [all2_data ds]
   exact propext ⟨fun h => h.2, fun h => ⟨wc_data d, h⟩⟩
theorem all2_data0 {ρ : Nat -> Option Nat} (ds : List D) : All2 (WC ρ) (ds.map .d) (ds.map .d) = True := by
 have := all2_data (ρ := ρ) (xs := []) (ys := []) ds
 rw [List.append_nil] at this
 rw [this]
 exact propext ⟨fun _ => trivial, fun _ => trivial⟩
theorem cellsOk_data {xs : List V} {ds : List D} (h : xs.all V.isCell = true) : cellsOk (ds.map .d ++ xs) := Or.inl (by
 rw [List.all_append, h, Bool.and_true, List.all_map, List.all_eq_true]
 intro x _
 rfl)
theorem cellsOk_data0 {ds : List D} : cellsOk (ds.map .d) := Or.inl (by
 rw [List.all_map, List.all_eq_true]
 intro x _
 rfl)
theorem map_renC_d {ρ : Nat -> Nat} {ds : List D} : ds.map (renC ρ ∘ V.d) = ds.map V.d := by
 apply List.map_congr_left
 intro x _
 rfl
attribute [simp] map_renC_d all2_data all2_data0 cellsOk_data cellsOk_data0
end Go.Psl
namespace Go.Psl
variable {α : Type} {f : α -> List D} {sz : Nat}
abbrev slD (f : α -> List D) (sz : Nat) (l : List α) : D := .sl sz (l.map f)
def fcel (f : α -> List D) (l : List α) : List V := ((l.map f).flatten).map .d
theorem fcel_nil : fcel f [] = [] := rfl
theorem fcel_cons (x : α) (l : List α) : fcel f (x :: l) = (f x).map .d ++ fcel f l := by simp [fcel]
theorem fcel_app (l m : List α) : fcel f l ++ fcel f m = fcel f (l ++ m) := by simp [fcel]
theorem fcel_one (l : List α) (x : α) : fcel f (l ++ [x]) = fcel f l ++ (f x).map .d := by simp [fcel]
theorem fcel_len (hf : ∀ x, (f x).length = sz) : ∀ l : List α, (fcel f l).length = l.length * sz
 | [] => by simp [fcel_nil]
 | x :: r => by rw [fcel_cons, List.length_append, List.length_map, hf, fcel_len hf r, List.length_cons, Nat.succ_mul]; omega
theorem fcel_take (hf : ∀ x, (f x).length = sz) (l m : List α) : (fcel f (l ++ m)).take (l.length * sz) = fcel f l := by
 rw [<- fcel_app, List.take_left' (fcel_len hf l)]
theorem fcel_whole (hf : ∀ x, (f x).length = sz) (l : List α) : (fcel f l).take (l.length * sz) = fcel f l := by
 rw [<- fcel_len hf, List.take_length]
theorem bor_fcelz (hf : ∀ x, (f x).length = sz) {H : Hp} {id : Nat} {l z : List α} (h : H id = some (fcel f (l ++ z))) : Bor H (.ls id 0 l.length sz) (.d (slD f sz l)) := by
 rw [Bor_ls]
 refine ⟨rfl, by simp, fun e he => ?_, _, h, ?_⟩
 . obtain ⟨k, _, rfl⟩ := List.mem_map.1 he; exact hf k
 . rw [List.drop_zero, fcel_take hf]; rfl
theorem bor_fcel (hf : ∀ x, (f x).length = sz) {H : Hp} {id : Nat} {l : List α} (h : H id = some (fcel f l)) : Bor H (.ls id 0 l.length sz) (.d (slD f sz l)) :=
 bor_fcelz hf (z := []) (by rw [List.append_nil]; exact h)
@[simp] theorem all2_fcel {ρ : Nat -> Option Nat} {l : List α} {xs ys : List V} : All2 (WC ρ) (fcel f l ++ xs) (fcel f l ++ ys) = All2 (WC ρ) xs ys := all2_data _
@[simp] theorem all2_fcel0 {ρ : Nat -> Option Nat} {l : List α} : All2 (WC ρ) (fcel f l) (fcel f l) = True := all2_data0 _
@[simp] theorem ok_fcel0 {l : List α} : cellsOk (fcel f l) = True := eq_true cellsOk_data0
@[simp] theorem ok_fcel1 {l : List α} {a : D} : cellsOk (fcel f l ++ [V.d a]) = True := eq_true (cellsOk_data rfl)
@[simp] theorem ok_fcel2 {l : List α} {a b : D} : cellsOk (fcel f l ++ [V.d a, V.d b]) = True := eq_true (cellsOk_data rfl)
@[simp] theorem ok_fcel4 {l : List α} {a b c d : D} : cellsOk (fcel f l ++ [V.d a, V.d b, V.d c, V.d d]) = True := eq_true (cellsOk_data rfl)
@[simp] theorem ok_fcel5 {l : List α} {a b c d e : D} : cellsOk (fcel f l ++ [V.d a, V.d b, V.d c, V.d d, V.d e]) = True := eq_true (cellsOk_data rfl)
theorem ac_fcel {l : List α} {p : Nat -> Prop} : ∀ c ∈ fcel f l, AC p anyD c := fun c hc => by
 obtain ⟨y, _, rfl⟩ := List.mem_map.1 hc; trivial
@[simp] theorem ac_fcel_or {l : List α} {p : Nat -> Prop} {Q : V -> Prop} : (∀ c, c ∈ fcel f l \/ Q c -> AC p anyD c) = ∀ c, Q c -> AC p anyD c :=
 propext ⟨fun h c hc => h c (Or.inr hc), fun h c hc => hc.elim (ac_fcel c) (h c)⟩
@[simp] theorem ac_fcel0 {l : List α} {p : Nat -> Prop} : (∀ c, c ∈ fcel f l -> AC p anyD c) = True := eq_true ac_fcel
@[simp] theorem ren_fcel {l : List α} (ρ : Nat -> Nat) : List.map (renC ρ) (fcel f l) = fcel f l := by
 unfold fcel; rw [List.map_map]; exact List.map_congr_left fun _ _ => rfl
end Go.Psl
namespace Go.Psl
def bs (l : List UInt8) : ByteArray := ⟨l.toArray⟩
theorem bs_mk (l : List UInt8) : ByteArray.mk l.toArray = bs l := nrfl rfl
theorem bs_empty : ByteArray.empty = bs [] := nrfl rfl
theorem bs_data (s : ByteArray) : bs s.data.toList = s := by
 cases s; simp [bs]
theorem bs_toList (l : List UInt8) : (bs l).data.toList = l := by simp [bs]
theorem bs_size (l : List UInt8) : (bs l).size = l.length := by simp [bs, ByteArray.size]
theorem bs_append (a b : List UInt8) : bs a ++ bs b = bs (a ++ b) := by
 apply ByteArray.ext
 simp [bs]
theorem bs_get (l : List UInt8) (i : Nat) : (bs l)[i]? = l[i]? := by
 by_cases h : i < l.length
 . have : i < (bs l).size := by rw [bs_size]; exact h
   rw [getElem?_pos (bs l) i this, List.getElem?_eq_getElem h]
   rfl
 . have : ¬ i < (bs l).size := by rw [bs_size]; exact h
   rw [getElem?_neg (bs l) i this, List.getElem?_eq_none (by omega)]
theorem bs_getE (l : List UInt8) (i : Nat) (h : i < (bs l).size) : (bs l)[i] = l[i]'(by rw [<- bs_size]; exact h) := by
 have h2 : i < l.length := by rw [<- bs_size]; exact h
 have := bs_get l i
 rw [getElem?_pos (bs l) i h, List.getElem?_eq_getElem h2] at this
 exact Option.some.inj this
theorem bs_extract (l : List UInt8) (i j : Nat) : (bs l).extract i j = bs ((l.take j).drop i) := by
 apply ByteArray.ext
 simp [bs, List.drop_take]
theorem bs_inj {a b : List UInt8} : bs a = bs b ↔ a = b := by
 constructor
 . intro h
   have := congrArg (fun s : ByteArray => s.data.toList) h
   simpa [bs] using this
 . intro h; rw [h]
theorem bs_beq (a b : List UInt8) : (bs a == bs b) = decide (a = b) := by
 by_cases h : a = b
 . subst h
   simp only [decide_true]
   exact bytes_refl _
 . rw [decide_eq_false h]
   cases hq : (bs a == bs b)
   . rfl
   . exact absurd (bs_inj.1 (bytes_beq hq)) h
theorem bs_bne (a b : List UInt8) : (bs a != bs b) = !decide (a = b) := by
 rw [bne, bs_beq]
theorem bldZ_eq : bldZ [.pointer none, .slice none 0 0] = true := nrfl rfl
theorem WC_yl {ρ : Nat -> Option Nat} {v : V} {i : Nat} : WC ρ v (.yl i) = W0 ρ v (.yl i) := nrfl rfl
theorem renC_yl {ρ : Nat -> Nat} {i : Nat} : renC ρ (.yl i) = .yl (ρ i) := nrfl rfl
attribute [simp] WC_yl renC_yl bldZ_eq bldT_eq bs_mk bs_empty bs_size bs_append bs_get bs_getE bs_extract bs_beq bs_bne
end Go.Psl
namespace Go.Log
abbrev By := List UInt8
def upB (b : UInt8) : Bool := decide (65 <= (b.toNat : Int)) && decide ((b.toNat : Int) <= 90)
def loB (b : UInt8) : Bool := decide (97 <= (b.toNat : Int)) && decide ((b.toNat : Int) <= 122)
def dgB (b : UInt8) : Bool := decide (48 <= (b.toNat : Int)) && decide ((b.toNat : Int) <= 57)
def betw (n lo hi : Int) : Bool := decide (lo <= n) && decide (n <= hi)
def fitA (f : Nat -> UInt8 -> Bool) (s : By) : Bool := (List.range s.length).all fun i => (s[i]?).all (f i)
theorem fitA_bad {f : Nat -> UInt8 -> Bool} {s : By} {i : Nat} {b : UInt8} (h : s[i]? = some b) (hf : f i b = false) : fitA f s = false := by
 unfold fitA
 rw [List.all_eq_false]
 exact ⟨i, by simp; exact (List.getElem?_eq_some_iff.1 h).1, by simp [h, hf]⟩
theorem fitA_ok {f : Nat -> UInt8 -> Bool} {s : By} (h : ∀ j, j < s.length -> (s[j]?).all (f j) = true) : fitA f s = true := by
 unfold fitA
 rw [List.all_eq_true]
 intro i hi
 exact h i (by simpa using hi)
theorem fitA_iff {f : Nat -> UInt8 -> Bool} {s : By} : fitA f s = true ↔ ∀ i b, s[i]? = some b -> f i b = true := by
 constructor
 . intro h i b hb
   cases hf : f i b
   . rw [fitA_bad hb hf] at h; cases h
   . rfl
 . intro h
   refine fitA_ok fun j hj => ?_
   rw [List.getElem?_eq_getElem hj]
   exact h j _ (List.getElem?_eq_getElem hj)
def madeS (s : By) (most : Int) (f : Nat -> UInt8 -> Bool) : Bool := fitA f s && betw s.length 1 most
def shipF (i : Nat) (b : UInt8) : Bool := upB b || (decide (0 < i) && dgB b)
def shipS (s : By) : Bool := madeS s 8 shipF
structure Etr where
 t : Int
 w : By
 a : List Int
 n : By
deriving DecidableEq, Inhabited
end Go.Log
namespace Go.Proofs.Tryz
open Go.Psl
open Go.Log
abbrev dS (l : By) : D := .lit (.string (bs l))
abbrev vS (l : By) : V := .d (dS l)
abbrev vu (b : UInt8) : V := .d (.lit (.int .u8 b.toNat))
abbrev intL (n : Int) : List D := [di n]
abbrev intsD (l : List Int) : D := .sl 1 (l.map intL)
abbrev entL (x : Etr) : List D := [di x.t, dS x.w, intsD x.a, dS x.n]
theorem fn45 (n lo hi : Int) : Ct prog 45 [vi n, vi lo, vi hi] (vb (betw n lo hi)) [] := by
 by_cases h1 : lo <= n
 . by_cases h2 : n <= hi
   . refine CB func45 c45 fun E hE => ?_
     simp [p45, h1, h2]
     apply RZ
     simp [results45, betw, h1, h2]
   . refine CB func45 c45 fun E hE => ?_
     simp [p45, h1, h2]
     apply RZ
     simp [results45, betw, h1, h2]
 . refine CB func45 c45 fun E hE => ?_
   simp [p45, h1]
   apply RZ
   simp [results45, betw, h1]
theorem fn91 (s : By) (most : Int) (g : FuncId) (f : Nat -> UInt8 -> Bool) (hl : s.length <= 1000000) (hg : ∀ (i : Nat) b, s[i]? = some b -> Ct prog g [vi i, vu b] (vb (f i b)) []) : Ct prog 91 [vS s, vi most, .d (.fn g [])] (vb (madeS s most f)) [] := by
 refine CB func91 c91 fun E hE => ?_
 simp [p91]
 refine pw_loop (α := Nat) (fun i => ⟨slots [(0, vS s), (1, vi most), (2, .d (.fn g [])), (9, vi s.length), (10, vi i)], lk [], 0⟩) (fun i => i <= s.length /\ ∀ j, j < i -> (s[j]?).all (f j) = true) (fun i => s.length - i) 0 ?_ ?_ ?_
 . exact ⟨by omega, fun j hj => by omega⟩
 . exact WK hE (lk [])
 . rintro i ⟨hi, hg3⟩
   have hz := @wz i (by omega)
   simp [p91l0]
   refine cR_split (fun h => ?_) (fun h => ?_)
   . simp at h
     obtain ⟨b, hb⟩ := gE h
     simp [hb]
     refine CLa (hg i b hb) ?_
     cases hq : f i b
     . simp
       apply RZ
       simp [results91, madeS, fitA_bad hb hq]
     . simp [hz]
       refine ⟨i + 1, ⟨by omega, fun j hj => ?_⟩, by omega, ?_⟩
       . by_cases e : j = i
         . subst e; rw [hb]; simp [hq]
         . exact hg3 j (by omega)
       . exact WK hE (lk [])
   . simp at h
     have e : fitA f s = true := fitA_ok fun j hj => hg3 j (by omega)
     simp
     refine CLa (fn45 s.length 1 most) ?_
     simp
     apply RZ
     simp [results91, madeS, e]
theorem fn93 (i : Int) (b : UInt8) : Ct prog 93 [vi i, vu b] (vb (upB b)) [] := by
 by_cases h1 : 65 <= (b.toNat : Int)
 . by_cases h2 : (b.toNat : Int) <= 90
   . refine CB func93 c93 fun E hE => ?_
     simp [p93, h1, h2]
     apply RZ
     simp [results93, upB, h1, h2]
   . refine CB func93 c93 fun E hE => ?_
     simp [p93, h1, h2]
     apply RZ
     simp [results93, upB, h1, h2]
 . refine CB func93 c93 fun E hE => ?_
   simp [p93, h1]
   apply RZ
   simp [results93, upB, h1]
theorem fn92 (i : Nat) (b : UInt8) : Ct prog 92 [vi i, vu b] (vb (shipF i b)) [] := by
 have c := fn93 i b
 cases h : upB b
 . rw [h] at c
   by_cases h0 : 0 < i
   . by_cases h1 : 48 <= (b.toNat : Int)
     . by_cases h2 : (b.toNat : Int) <= 57
       . refine CB func92 c92 fun E hE => ?_
         simp [p92]
         refine CLa c ?_
         simp [h0, h1, h2]
         apply RZ
         simp [results92, shipF, h, h0, dgB, h1, h2]
       . refine CB func92 c92 fun E hE => ?_
         simp [p92]
         refine CLa c ?_
         simp [h0, h1, h2]
         apply RZ
         simp [results92, shipF, h, h0, dgB, h1, h2]
     . refine CB func92 c92 fun E hE => ?_
       simp [p92]
       refine CLa c ?_
       simp [h0, h1]
       apply RZ
       simp [results92, shipF, h, h0, dgB, h1]
   . refine CB func92 c92 fun E hE => ?_
     simp [p92]
     refine CLa c ?_
     simp [h0]
     apply RZ
     simp [results92, shipF, h, h0]
 . rw [h] at c
   refine CB func92 c92 fun E hE => ?_
   simp [p92]
   refine CLa c ?_
   simp
   apply RZ
   simp [results92, shipF, h]
theorem fn44 (s : By) (hl : s.length <= 1000000) : Ct prog 44 [vS s] (vb (shipS s)) [] := by
 refine CB func44 c44 fun E hE => ?_
 simp [p44]
 refine CLa (fn91 s 8 92 shipF hl fun i b _ => fn92 i b) ?_
 simp
 apply RZ
 simp [results44, shipS]
end Go.Proofs.Tryz
namespace Go.Psl
variable {P : Program} {G : Gh} {W : World}
def Gh.cmp (G : Gh) (σ : Nat -> Nat) : Gh := ⟨fun i => G.β (σ i), fun i => G.bs (σ i), fun i => G.ph (σ i), fun i => G.lo (σ i), G.Im⟩
theorem R0_ren {σ : Nat -> Nat} {v : V} {x : Value} (h : R0 G W (ren0 σ v) x) : R0 (G.cmp σ) W v x := by cases v <;> exact h
theorem all_ren {S S' : V -> Value -> Prop} {r : V -> V} (h : ∀ v x, S (r v) x -> S' v x) {cs : List V} {xs : List Value} (ha : All2 S (cs.map r) xs) : All2 S' cs xs :=
 (All2.map_left.1 ha).mono fun c _ x hx => h c x hx
theorem R1_ren {σ : Nat -> Nat} {v : V} {x : Value} (h : R1 G W (ren1 σ v) x) : R1 (G.cmp σ) W v x := by
 cases v with
 | cl f caps => obtain ⟨cv, hx, hc⟩ := h; exact ⟨cv, hx, all_ren (fun v x => R0_ren) hc⟩
 | _ => exact h
theorem R2_ren {σ : Nat -> Nat} {v : V} {x : Value} (h : R2 G W (ren2 σ v) x) : R2 (G.cmp σ) W v x := by
 cases v with
 | agg cs => obtain ⟨cv, hx, hc⟩ := h; exact ⟨cv, hx, all_ren (fun v x => R1_ren) hc⟩
 | cl f caps => exact R1_ren (v := .cl f caps) h
 | _ => exact h
theorem RV_ren {σ : Nat -> Nat} {v : V} {x : Value} (h : RV G W (ren σ v) x) : RV (G.cmp σ) W v x := by
 cases v with
 | tup cs => obtain ⟨cv, hx, hc⟩ := h; exact ⟨cv, hx, all_ren (fun v x => R2_ren) hc⟩
 | agg cs => exact R2_ren (v := .agg cs) h
 | cl f caps => exact R2_ren (v := .cl f caps) h
 | _ => exact h
theorem isCell_unren {σ : Nat -> Nat} {v : V} (h : V.isCell (renC σ v) = true) : V.isCell v = true := by
 cases v <;> first | rfl | (simp [renC, ren1, ren0, V.isCell] at h; done)
theorem ren_data {σ : Nat -> Nat} {es : List (Value × Bool × List D)} {t : Nat} {v : V} (h : ren σ v = mapFr es t) : v = mapFr es t := by
 unfold mapFr at *
 split at h
 . cases v with
   | agg cs =>
     simp only [ren, ren2, V.agg.injEq] at h
     congr 1
     refine List.ext_getElem? fun i => ?_
     have := congrArg (fun l => l[i]?) h
     simp only [List.getElem?_map] at this ⊢
     cases hc : cs[i]? with
     | none => rw [hc] at this; exact this
     | some c =>
       rw [hc] at this
       rename_i e _
       cases he : e.2.2[i]? with
       | none => rw [he] at this; cases this
       | some x =>
         rw [he] at this
         simp only [Option.map_some, Option.some.injEq] at this ⊢
         cases c <;> simp [ren1, ren0] at this ⊢
         exact this
   | _ => simp [ren, ren2, ren1, ren0] at h
 . cases v <;> simp [ren, ren2, ren1, ren0] at h ⊢
theorem HB_ren {σ : Nat -> Nat} {i : Nat} {cs : List V} (h : HB G W (σ i) (cs.map (renC σ))) : HB (G.cmp σ) W i cs := by
 rcases h with ⟨h1, h2⟩ | ⟨h1, h0, h2, c, T, h3, h4, h5, h6, h7⟩ | ⟨h1, h0, h2, ⟨hz, fr, nt, ps, pa, pb, jmp, rec, h3, h4, h5⟩ | ⟨hz, es, ms, ck, h3, h4, h5⟩ | ⟨hz, bx, bp, bv, h3, h4, h5, h6, h7⟩⟩
 . exact .inl ⟨h1, List.map_eq_nil_iff.1 h2⟩
 . have hcell : ∀ v ∈ cs, V.isCell v = true := fun v hv => isCell_unren (List.all_eq_true.1 h7 _ (List.mem_map.2 ⟨v, hv, rfl⟩))
   have hmap : cs.map (renC σ) = cs.map (ren1 σ) := List.map_congr_left fun c hc => renC_cell (hcell c hc)
   rw [hmap] at h5 h6
   refine .inr (.inl ⟨h1, h0, h2, c, T, h3, h4, by simpa using h5, ?_, List.all_eq_true.2 hcell⟩)
   rw [List.length_map] at h6
   exact all_ren (fun v x => R1_ren) h6
 . obtain ⟨c, rfl, hc⟩ : ∃ c, cs = [c] /\ renC σ c = .lr fr nt ps pa pb jmp := by
     match cs, h3 with
     | [c], h3 => simp at h3; exact ⟨c, rfl, h3⟩
     | [], h3 => simp at h3
     | _ :: _ :: _, h3 => simp at h3
   cases c with
   | lr fr0 nt0 ps0 pa0 pb0 jmp0 =>
     simp only [renC, V.lr.injEq] at hc
     obtain ⟨rfl, rfl, rfl, rfl, rfl, rfl⟩ := hc
     obtain ⟨q1, q2, q3, q4, q5, q6⟩ := h5
     exact .inr (.inr ⟨h1, h0, h2, .inl ⟨hz, fr0, _, _, _, _, _, rec, rfl, h4, q1, q2, q3, q4, fun t => RV_ren (q5 t), q6⟩⟩)
   | _ => simp [renC, ren1, ren0] at hc
 . refine .inr (.inr ⟨h1, h0, h2, .inr (.inl ⟨hz, es, ms, ck, ?_, h4, h5⟩)⟩)
   match cs, h3 with
   | [c, d], h3 =>
     simp only [List.map_cons, List.map_nil, mapC, List.cons.injEq, and_true] at h3
     obtain ⟨e1, e2⟩ := h3
     have d1 : d = .d (.lit (.bool true)) := by
       cases d <;> simp [renC, ren1, ren0] at e2 ⊢
       exact e2
     have c1 : c = mapB es := by
       cases c with
       | lr fr nt ps pa pb jmp =>
         simp only [renC, mapB, V.lr.injEq] at e1
         obtain ⟨e0, rfl, rfl, rfl, rfl, rfl⟩ := e1
         unfold mapB
         congr 1
         funext t
         have := congrFun e0 t
         exact ren_data this
       | _ => simp [renC, ren1, ren0, mapB] at e1
     rw [c1, d1]; rfl
   | [], h3 => simp [mapC] at h3
   | [_], h3 => simp [mapC] at h3
   | _ :: _ :: _ :: _, h3 => simp [mapC] at h3
 . match cs, h3 with
   | [c, d], h3 =>
     simp only [List.map_cons, List.map_nil, List.cons.injEq, and_true] at h3
     obtain ⟨e1, e2⟩ := h3
     have d1 : d = .d (.lit bp.m) := by
       cases d <;> simp [renC, ren1, ren0] at e2 ⊢
       exact e2
     subst e1
     have hc := isCell_unren h7
     rw [renC_cell hc] at h6
     rw [d1]
     exact .inr (.inr ⟨h1, h0, h2, .inr (.inr ⟨hz, c, bp, bv, rfl, h4, h5, R1_ren h6, hc⟩)⟩)
   | [], h3 => simp at h3
   | [_], h3 => simp at h3
   | _ :: _ :: _ :: _, h3 => simp at h3
def renL (σ : Nat -> Nat) (L : List (Nat × List V)) : List (Nat × List V) := L.map fun p => (σ p.1, p.2.map (renC σ))
theorem lk_ren {σ : Nat -> Nat} {K : Nat} (hinj : ∀ i j, i < K -> j < K -> σ i = σ j -> i = j) : ∀ {L : List (Nat × List V)} {i : Nat}, idsLt K L -> i < K -> lk (renL σ L) (σ i) = (lk L i).map (·.map (renC σ))
 | [], _, _, _ => rfl
 | p :: r, i, hL, hi => by
   simp only [renL, List.map_cons, lk]
   by_cases h : i = p.1
   . subst h; simp
   . rw [if_neg h, if_neg (fun e => h (hinj _ _ hi hL.1 e))]
     exact lk_ren hinj hL.2 hi
theorem lk_ren_inv {σ : Nat -> Nat} {K : Nat} (hinj : ∀ i j, i < K -> j < K -> σ i = σ j -> i = j) {L : List (Nat × List V)} {j : Nat} {cs' : List V} (hL : idsLt K L) (h : lk (renL σ L) j = some cs') : ∃ i cs, i < K /\ j = σ i /\ lk L i = some cs /\ cs' = cs.map (renC σ) := by
 have hm := lk_mem' h
 simp only [renL, List.mem_map] at hm
 obtain ⟨p, hp, e⟩ := hm
 have hlt : p.1 < K := by
   have : ∀ {L : List (Nat × List V)}, idsLt K L -> p ∈ L -> p.1 < K := by
     intro L
     induction L with
     | nil => intro _ h; cases h
     | cons q r ih =>
       intro h h2
       rcases List.mem_cons.1 h2 with rfl | h2
       . exact h.1
       . exact ih h.2 h2
   exact this hL hp
 have hj : j = σ p.1 := by cases e; rfl
 rw [hj, lk_ren hinj hL hlt, Option.map_eq_some_iff] at h
 obtain ⟨cs, h1, h2⟩ := h
 exact ⟨p.1, cs, hlt, hj, h1, h2.symm⟩
theorem Cm.rename (σ : Nat -> Nat) (K : Nat) (hinj : ∀ i j, i < K -> j < K -> σ i = σ j -> i = j) {f : FuncId} {args : List V} {L : List (Nat × List V)} {ks : List Nat} {res : Res} {L1 : List (Nat × List V)} (h : Cm P f args (lk L) ks res (lk L1)) (hL : idsLt K L) (hL1 : idsLt K L1) (hks : ∀ i ∈ ks, i < K) :
   Cm P f (args.map (ren2 σ)) (lk (renL σ L)) (ks.map σ) (renR σ res) (lk (renL σ L1)) := by
 refine ⟨h.1, fun G W xs hGW hargs hpre => ?_⟩
 have hIn : ∀ i, i < K -> (InH (lk (renL σ L)) (σ i) ↔ InH (lk L) i) := fun i hi => by unfold InH; rw [lk_ren hinj hL hi]; simp
 have hIn1 : ∀ i, i < K -> (InH (lk (renL σ L1)) (σ i) ↔ InH (lk L1) i) := fun i hi => by unfold InH; rw [lk_ren hinj hL1 hi]; simp
 have hlent : ∀ b, lentB (G.cmp σ) (lk L) b -> lentB G (lk (renL σ L)) b := fun b ⟨i, hi, hp, he⟩ => ⟨σ i, (hIn i (lk_lt hL hi)).2 hi, hp, he⟩
 have hlent' : ∀ b, lentB G (lk (renL σ L)) b -> lentB (G.cmp σ) (lk L) b := fun b ⟨j, hj, hp, he⟩ => by
   obtain ⟨cs', hcs⟩ := Option.isSome_iff_exists.1 hj
   obtain ⟨i, cs, hi, rfl, h1, _⟩ := lk_ren_inv hinj hL hcs
   exact ⟨i, by unfold InH; rw [h1]; rfl, hp, he⟩
 have hpre' : PreH (G.cmp σ) W (lk L) ks := by
   refine ⟨fun i cs hi => HB_ren (hpre.hb (σ i) _ ?_), fun i j hi hj hpi hpj he => ?_, fun i hi => ?_⟩
   . rw [lk_ren hinj hL (lk_lt hL (by unfold InH; rw [hi]; rfl)), hi]; rfl
   . have li := lk_lt hL hi; have lj := lk_lt hL hj
     exact hinj i j li lj (hpre.inj _ _ ((hIn i li).2 hi) ((hIn j lj).2 hj) hpi hpj he)
   . obtain ⟨h1, h2⟩ := hpre.st (σ i) (List.mem_map.2 ⟨i, hi, rfl⟩)
     exact ⟨(hIn i (hks i hi)).1 h1, h2⟩
 refine (h.2 (G.cmp σ) W xs hGW (all_ren (fun v x => R2_ren) hargs) hpre').mono fun e W' ⟨G1, hp⟩ => ?_
 obtain ⟨τ, hτ⟩ : ∃ τ : Nat -> Nat, ∀ i, i < K -> τ (σ i) = i := by
   refine ⟨fun j => if hj : ∃ i, i < K /\ σ i = j then hj.choose else 0, fun i hi => ?_⟩
   have hj : ∃ i', i' < K /\ σ i' = σ i := ⟨i, hi, rfl⟩
   simp only [dif_pos hj]
   exact hinj _ _ hj.choose_spec.1 hi hj.choose_spec.2
 have hint : Into (InH (lk L1)) anyD σ G1 W' (G1.cmp τ) W' := ⟨fun i hi => by
   have := hτ i (lk_lt hL1 hi)
   simp only [Gh.cmp, this, and_self], fun _ _ _ h => h⟩
 refine ⟨G1.cmp τ, ⟨hp.os, hp.tape, hp.output, hp.drawn, hp.size, fun b hb hl => hp.block b hb (fun h => hl (hlent b h)), fun b hb => ?_, fun b hb => hp.im0 b hb, resRel.into hint hp.wf hp.rv, ?_, ?_, ?_, ?_⟩⟩
 . obtain ⟨h1, h2⟩ := hp.im b hb
   exact ⟨h1, h2.imp id (Or.imp id (hlent b))⟩
 . cases res with
   | ret r => exact AV.ren (fun i hi => (hIn1 i (lk_lt hL1 hi)).2 hi) hp.wf
   | pan r => exact AV.ren (fun i hi => (hIn1 i (lk_lt hL1 hi)).2 hi) hp.wf
 . intro j cs' hj
   obtain ⟨i, cs, hi, rfl, h1, rfl⟩ := lk_ren_inv hinj hL1 hj
   have hin : InH (lk L1) i := by unfold InH; rw [h1]; rfl
   obtain ⟨q1, q2, q3⟩ := hp.hb i cs h1
   refine ⟨hint.hb hin q3 q1 (fun hph => q1.nim hph), fun hph => ?_, fun c hc => ?_⟩
   . simp only [Gh.cmp, hτ i hi] at hph ⊢
     exact (q2 hph).imp id (hlent _)
   . obtain ⟨c0, hc0, rfl⟩ := List.mem_map.1 hc
     exact AC.ren (fun i hi => (hIn1 i (lk_lt hL1 hi)).2 hi) (q3 c0 hc0)
 . intro j j' hj hj' hpj hpj' he
   obtain ⟨x, hx⟩ := Option.isSome_iff_exists.1 hj
   obtain ⟨y, hy⟩ := Option.isSome_iff_exists.1 hj'
   obtain ⟨i, cs, hi, rfl, h1, _⟩ := lk_ren_inv hinj hL1 hx
   obtain ⟨i', cs', hi', rfl, h1', _⟩ := lk_ren_inv hinj hL1 hy
   simp only [Gh.cmp, hτ i hi, hτ i' hi'] at hpj hpj' he
   rw [hp.inj i i' (by unfold InH; rw [h1]; rfl) (by unfold InH; rw [h1']; rfl) hpj hpj' he]
 . intro j hj hin
   obtain ⟨i, hi, rfl⟩ := List.mem_map.1 hj
   have := hp.st i hi ((hIn1 i (hks i hi)).1 hin)
   simp only [Gh.cmp, hτ i (hks i hi)] at this ⊢
   exact this
theorem hiOk_at {ks : List Nat} {L1 : List (Nat × List V)} (hi : ∀ p ∈ L1, p.1 ∈ ks \/ p.1 < 1048576) {i : Nat} (h : InH (lk L1) i) (hn : i ∉ ks) : i < 1048576 := by
 obtain ⟨x, hx⟩ := Option.isSome_iff_exists.1 h
 rcases hi _ (lk_mem' hx) with h | h
 . exact absurd h hn
 . exact h
theorem ACall.mkR {H : Hp} {b : Nat} {g : FuncId} {az : List V} {Kc Kx : V -> Hp -> Prop} (args : List V) (L : List (Nat × List V)) (ks : List Nat) (res : Res) (L1 : List (Nat × List V)) (hf : Cm P g args (lk L) ks res (lk L1)) (hin : HinOk H L) (hi : ∀ p ∈ L1, p.1 ∈ ks \/ p.1 < 1048576) (hks : ksOk b L L1 ks) (hL : ∀ p ∈ L, p.1 < b)
   (hb : All2 (Bor noH) az args \/ (All2 (Bor (delL H L)) az args /\ AV (InH (lk L1)) litD res.v /\ flatL (InH (lk L1)) L1)) (hk : afterC res (sg ks b) (addM (delL H L) ks b L1) Kc Kx) : ACall P none H H b g az Kc Kx := by
 have hL' : ∀ i, InH (lk L) i -> i < b := fun i h => by
   obtain ⟨x, hx⟩ := Option.isSome_iff_exists.1 h
   exact hL _ (lk_mem' hx)
 refine ⟨args, lk L, ks, res, lk L1, _, ⟨hf, hin.at, fun i h hn => hiOk_at hi h hn, fun i h => (hks.at i h).2.2, hb.imp id fun h => ⟨?_, flatRes_of h.2.1 h.2.2⟩⟩, trivial, (heapM_list H ks b L L1 hks hL').symm, hk⟩
 have : lessH H (lk L) = delL H L := by funext i; rw [delL_eq]; rfl
 rw [this]; exact h.1
def wrL (ws : List (Nat × Nat)) (k b : Nat) (ks : List Nat) (L1 : List (Nat × List V)) : List (Nat × List V) -> Prop
 | [] => True
 | p :: r => ((k, p.1) ∈ ws \/ (p.1 ∈ ks /\ (lk L1 p.1).map (·.map (renC (sg ks b))) = some p.2)) /\ wrL ws k b ks L1 r
theorem wrL.at {ws : List (Nat × Nat)} {k b : Nat} {ks : List Nat} {L1 : List (Nat × List V)} : ∀ {L : List (Nat × List V)}, wrL ws k b ks L1 L -> ∀ i cs, lk L i = some cs -> (k, i) ∈ ws \/ (i ∈ ks /\ (lk L1 i).map (·.map (renC (sg ks b))) = some cs)
 | [], _, i, cs, h => by simp [lk] at h
 | p :: r, hw, i, cs, h => by
   simp only [lk] at h
   split at h
   . rename_i e; cases h; rw [e]; exact hw.1
   . exact hw.2.at i cs h
section
variable {P : Program} {Hr H : Hp} {b : Nat} {g : FuncId} {az : List V} {Kc Kx : V -> Hp -> Prop} {args : List V} {L : List (Nat × List V)} {ks : List Nat} {res : Res} {L1 : List (Nat × List V)}
theorem CRs (hf : Cm P g args (lk L) ks res (lk L1)) (h : HinOk H L /\ (∀ p ∈ L1, p.1 ∈ ks \/ p.1 < 1048576) /\ ksOk b L L1 ks /\ (∀ p ∈ L, p.1 < b) /\ (All2 (Bor noH) az args \/ (All2 (Bor (delL H L)) az args /\ AV (InH (lk L1)) litD res.v /\ flatL (InH (lk L1)) L1))) (hk : afterC res (sg ks b) (addM (delL H L) ks b L1) Kc Kx) : ACall P none H H b g az Kc Kx :=
 ACall.mkR args L ks res L1 hf h.1 h.2.1 h.2.2.1 h.2.2.2.1 h.2.2.2.2 hk
end
end Go.Psl
namespace Go.Psl
variable {P : Program} {Γ : Tys} {eqs : Eqs} {E : Ent}
def rid (ks : List Nat) (i : Nat) : Option Nat := if i ∈ ks then some i else none
structure KeepOk (ks : List Nat) (L : List (Nat × List V)) : Prop where
 names : L.map (·.1) = ks
 nd : ks.Nodup
 cells : ∀ p ∈ L, p.2 ≠ [] /\ cellsOk p.2 /\ ∀ c ∈ p.2, WC (rid ks) c c
theorem rid_in {ks : List Nat} {i : Nat} (h : i ∈ ks) : rid ks i = some i := by simp [rid, h]
theorem lk_nd : ∀ {L : List (Nat × List V)}, (L.map (·.1)).Nodup -> ∀ p ∈ L, lk L p.1 = some p.2
 | [], _, p, hp => by simp at hp
 | q :: r, hn, p, hp => by
   simp only [List.map_cons, List.nodup_cons] at hn
   simp only [lk]
   rcases List.mem_cons.1 hp with rfl | hp
   . simp
   . have : p.1 ≠ q.1 := fun e => hn.1 (e ▸ List.mem_map.2 ⟨p, hp, rfl⟩)
     rw [if_neg this]
     exact lk_nd hn.2 p hp
section
variable {ks : List Nat} {L L1 : List (Nat × List V)}
theorem KeepOk.lk (h : KeepOk ks L) {p : Nat × List V} (hp : p ∈ L) : Go.Psl.lk L p.1 = some p.2 := lk_nd (by rw [h.names]; exact h.nd) p hp
theorem KeepOk.mem (h : KeepOk ks L) {p : Nat × List V} (hp : p ∈ L) : p.1 ∈ ks := by rw [<- h.names]; exact List.mem_map.2 ⟨p, hp, rfl⟩
theorem KeepOk.isIn (h : KeepOk ks L) {i : Nat} : (Go.Psl.lk L i).isSome = true ↔ i ∈ ks := by
 constructor
 . intro hi
   obtain ⟨x, hx⟩ := Option.isSome_iff_exists.1 hi
   exact h.mem (p := (i, x)) (lk_mem' hx)
 . intro hi
   rw [<- h.names] at hi
   obtain ⟨p, hp, rfl⟩ := List.mem_map.1 hi
   rw [h.lk hp]; rfl
theorem rid_some {i j : Nat} (h : rid ks i = some j) : i ∈ ks /\ j = i := by
 unfold rid at h; split at h
 . cases h; exact ⟨by assumption, rfl⟩
 . cases h
theorem W0_rid {c : V} (h : W0 (rid ks) c c) : A0 (· ∈ ks) anyD c /\ ∀ b, ren0 (sg ks b) c = c := by
 cases c with
 | junk => exact ⟨trivial, fun _ => rfl⟩
 | d x => exact ⟨trivial, fun _ => rfl⟩
 | lp i o =>
   obtain ⟨j, hj, _⟩ := h
   have hi := (rid_some hj).1
   exact ⟨hi, fun b => by simp [ren0, sg, hi]⟩
 | ls i o l z =>
   unfold W0 at h
   simp only at h
   split at h
   . rename_i j hj
     have hi := (rid_some hj).1
     exact ⟨hi, fun b => by simp [ren0, sg, hi]⟩
   . cases h.2
 | yl i =>
   obtain ⟨j, hj, _⟩ := h
   have hi := (rid_some hj).1
   exact ⟨hi, fun b => by simp [ren0, sg, hi]⟩
 | lr => exact False.elim h
 | cl f cs => exact ⟨trivial, fun _ => rfl⟩
 | agg cs => exact ⟨trivial, fun _ => rfl⟩
 | tup cs => exact ⟨trivial, fun _ => rfl⟩
theorem map_same {α : Type} {f : α -> α} : ∀ {l : List α}, (∀ x ∈ l, f x = x) -> l.map f = l
 | [], _ => rfl
 | a :: l, h => by rw [List.map_cons, h a (by simp), map_same fun x hx => h x (List.mem_cons_of_mem _ hx)]
theorem all2_same {α : Type} {R : α -> α -> Prop} : ∀ {l : List α}, All2 R l l -> ∀ x ∈ l, R x x
 | [], _, _, hx => by simp at hx
 | a :: l, h, x, hx => by
   rcases List.mem_cons.1 hx with rfl | hx
   . exact h.1
   . exact all2_same h.2 x hx
theorem all2_refl {α : Type} {R : α -> α -> Prop} : ∀ {l : List α}, (∀ x ∈ l, R x x) -> All2 R l l
 | [], _ => trivial
 | a :: l, h => ⟨h a (by simp), all2_refl fun x hx => h x (List.mem_cons_of_mem _ hx)⟩
theorem A0_ren {c : V} (h : A0 (· ∈ ks) anyD c) (b : Nat) : ren0 (sg ks b) c = c := by
 cases c <;> first | rfl | (have h2 : _ ∈ ks := h; simp [ren0, sg, h2]) | exact False.elim h
theorem A1_ren {c : V} (h : A1 (· ∈ ks) anyD c) (b : Nat) : ren1 (sg ks b) c = c := by
 cases c with
 | cl f cs => simp only [ren1]; rw [map_same fun x hx => A0_ren (h x hx) b]
 | junk => exact A0_ren (ks := ks) (c := .junk) h b
 | d x => exact A0_ren (ks := ks) (c := .d x) h b
 | lp i o => exact A0_ren (ks := ks) (c := .lp i o) h b
 | ls i o l z => exact A0_ren (ks := ks) (c := .ls i o l z) h b
 | yl i => exact A0_ren (ks := ks) (c := .yl i) h b
 | lr f n p pa pb j => exact A0_ren (ks := ks) (c := .lr f n p pa pb j) h b
 | agg cs => exact A0_ren (ks := ks) (c := .agg cs) h b
 | tup cs => exact A0_ren (ks := ks) (c := .tup cs) h b
theorem A2_ren {c : V} (h : A2 (· ∈ ks) anyD c) (b : Nat) : ren2 (sg ks b) c = c := by
 cases c with
 | agg cs => simp only [ren2]; rw [map_same fun x hx => A1_ren (h x hx) b]
 | junk => exact A1_ren (ks := ks) (c := .junk) h b
 | d x => exact A1_ren (ks := ks) (c := .d x) h b
 | lp i o => exact A1_ren (ks := ks) (c := .lp i o) h b
 | ls i o l z => exact A1_ren (ks := ks) (c := .ls i o l z) h b
 | yl i => exact A1_ren (ks := ks) (c := .yl i) h b
 | lr f n p pa pb j => exact A1_ren (ks := ks) (c := .lr f n p pa pb j) h b
 | cl f cs => exact A1_ren (ks := ks) (c := .cl f cs) h b
 | tup cs => exact A1_ren (ks := ks) (c := .tup cs) h b
theorem AV_ren {c : V} (h : AV (· ∈ ks) anyD c) (b : Nat) : ren (sg ks b) c = c := by
 cases c with
 | tup cs => simp only [ren]; rw [map_same fun x hx => A2_ren (h x hx) b]
 | junk => exact A2_ren (ks := ks) (c := .junk) h b
 | d x => exact A2_ren (ks := ks) (c := .d x) h b
 | lp i o => exact A2_ren (ks := ks) (c := .lp i o) h b
 | ls i o l z => exact A2_ren (ks := ks) (c := .ls i o l z) h b
 | yl i => exact A2_ren (ks := ks) (c := .yl i) h b
 | lr f n p pa pb j => exact A2_ren (ks := ks) (c := .lr f n p pa pb j) h b
 | cl f cs => exact A2_ren (ks := ks) (c := .cl f cs) h b
 | agg cs => exact A2_ren (ks := ks) (c := .agg cs) h b
theorem WC_rid {c : V} (h : WC (rid ks) c c) : AC (· ∈ ks) anyD c /\ ∀ b, renC (sg ks b) c = c := by
 cases c with
 | lr fr nt ps pa pb jmp =>
   have h2 : ∀ t, AV (· ∈ ks) anyD (fr t) := fun t => AV.mono (fun i hi => (rid_some hi).1) (fun _ h => h) (h.2 t)
   refine ⟨h2, fun b => ?_⟩
   simp only [renC]
   congr 1
   funext t; exact AV_ren (h2 t) b
 | cl f cs =>
   obtain ⟨cs', e, h2⟩ := h
   cases e
   have h3 := all2_same h2
   exact ⟨fun c hc => (W0_rid (h3 c hc)).1, fun b => by simp only [renC, ren1]; rw [map_same fun x hx => (W0_rid (h3 x hx)).2 b]⟩
 | junk => exact ⟨trivial, fun _ => rfl⟩
 | d x => exact ⟨trivial, fun _ => rfl⟩
 | lp i o => exact W0_rid (c := .lp i o) h
 | ls i o l z => exact W0_rid (c := .ls i o l z) h
 | yl i => exact W0_rid (c := .yl i) h
 | agg cs => exact False.elim h
 | tup cs => exact False.elim h
theorem KeepOk.ac (h : KeepOk ks L) {p : Nat × List V} (hp : p ∈ L) : ∀ c ∈ p.2, AC (· ∈ ks) anyD c := fun c hc => (WC_rid ((h.cells p hp).2.2 c hc)).1
theorem KeepOk.hp (h : KeepOk ks L) {H : Hp} (hH : ∀ i ∈ ks, H i = Go.Psl.lk L i) : HpOk (rid ks) H L := by
 have key : ∀ M : List (Nat × List V), (∀ p ∈ M, p ∈ L) -> HpOk (rid ks) H M := by
   intro M
   induction M with
   | nil => intro _; trivial
   | cons p r ih =>
     intro hM
     have hp := hM p (by simp)
     have hm := h.mem hp
     obtain ⟨c1, c2, c3⟩ := h.cells p hp
     refine ⟨?_, ih fun q hq => hM q (List.mem_cons_of_mem _ hq)⟩
     rw [rid_in hm]
     exact ⟨⟨p.2, by rw [hH _ hm, h.lk hp], all2_refl c3⟩, c2⟩
 exact key L fun _ h => h
theorem KeepOk.inj (h : KeepOk ks L) : RhoInj (rid ks) L := by
 have key : ∀ M : List (Nat × List V), (∀ p ∈ M, p ∈ L) -> RhoInj (rid ks) M := by
   intro M
   induction M with
   | nil => intro _; trivial
   | cons p r ih =>
     intro hM
     refine ⟨fun q hq => ?_, ih fun q hq => hM q (List.mem_cons_of_mem _ hq)⟩
     have h1 := h.mem (hM p (by simp))
     have h2 := h.mem (hM q (List.mem_cons_of_mem _ hq))
     rw [rid_in h1, rid_in h2]
     by_cases e : q.1 = p.1
     . exact Or.inr (Or.inr e)
     . exact Or.inr (Or.inl fun e' => e (Option.some.inj e'))
 exact key L fun _ h => h
theorem KeepOk.stab (_ : KeepOk ks L) {H : Hp} (hH : ∀ i ∈ ks, H i = Go.Psl.lk L i) : StabL (rid ks) H (Go.Psl.lk L) ks := by
 have key : ∀ M : List Nat, (∀ i ∈ M, i ∈ ks) -> StabL (rid ks) H (Go.Psl.lk L) M := by
   intro M
   induction M with
   | nil => intro _; trivial
   | cons i r ih =>
     intro hM
     have hi := hM i (by simp)
     exact ⟨fun hs => ⟨rid_in hi, by rw [hH i hi]; exact hs⟩, ih fun j hj => hM j (List.mem_cons_of_mem _ hj)⟩
 exact key ks fun _ h => h
theorem KeepOk.stabW (_ : KeepOk ks L) {H : Hp} (hH : ∀ i ∈ ks, H i = Go.Psl.lk L i) {n : Nat} (hn : ∀ i ∈ ks, i < n) : StabW (rid ks) H (Go.Psl.lk L) n ks := by
 have key : ∀ M : List Nat, (∀ i ∈ M, i ∈ ks) -> StabW (rid ks) H (Go.Psl.lk L) n M := by
   intro M
   induction M with
   | nil => intro _; trivial
   | cons i r ih =>
     intro hM
     have hi := hM i (by simp)
     exact ⟨hn i hi, fun hs => ⟨rid_in hi, by rw [hH i hi]; exact hs⟩, ih fun j hj => hM j (List.mem_cons_of_mem _ hj)⟩
 exact key ks fun _ h => h
theorem KeepOk.ids (h : KeepOk ks L) {n : Nat} (hn : ∀ i ∈ ks, i < n) : HpIds n L := by
 have key : ∀ M : List (Nat × List V), (∀ p ∈ M, p ∈ L) -> HpIds n M := by
   intro M
   induction M with
   | nil => intro _; trivial
   | cons p r ih =>
     intro hM
     have hp := hM p (by simp)
     exact ⟨hn _ (h.mem hp), fun c hc => AC.mono hn (fun _ h => h) (h.ac hp c hc), ih fun q hq => hM q (List.mem_cons_of_mem _ hq)⟩
 exact key L fun _ h => h
theorem Weak.keep {st : St} (hs : ∀ i, E.stab i ↔ i ∈ ks) (h : KeepOk ks L) (hH : ∀ i ∈ ks, st.H i = Go.Psl.lk L i) {n : Nat} (hn : ∀ i ∈ ks, i < n) (l : List (Nat × V)) (h1 : SlotsOk (rid ks) st.fr l) (h4 : SlotsIds n l) : Weak P E st ⟨slots l, Go.Psl.lk L, n⟩ :=
 Weak.mkM hs (rid ks) l L n h1 (h.hp hH) h.inj h4 (h.ids hn) (h.stabW hH hn)
theorem heapM_keep {H : Hp} {b : Nat} (hL : KeepOk ks L) (hL1 : KeepOk ks L1) : heapM H b (Go.Psl.lk L) ks (Go.Psl.lk L1) = fun i => if i ∈ ks then Go.Psl.lk L1 i else H i := by
 funext i
 unfold heapM
 by_cases hi : i ∈ ks
 . simp only [hi, if_true]
   have h1 := hL1.isIn.2 hi
   obtain ⟨x, hx⟩ := Option.isSome_iff_exists.1 h1
   rw [hx]
   have hm := hL1.cells (i, x) (lk_mem' hx)
   simp only [Option.map_some]
   rw [map_same fun c hc => (WC_rid (hm.2.2 c hc)).2 b]
 . simp only [hi, if_false]
   have h2 : (Go.Psl.lk L i).isSome = false := by
     cases hc : (Go.Psl.lk L i).isSome with
     | false => rfl
     | true => exact absurd (hL.isIn.1 hc) hi
   rw [h2]
   simp only [Bool.false_eq_true, if_false]
   split
   . split
     . rfl
     . rename_i hn
       have h3 : Go.Psl.lk L1 (i - b) = none := by
         cases hc : Go.Psl.lk L1 (i - b) with
         | none => rfl
         | some x => exact absurd (hL1.isIn.1 (by rw [hc]; rfl)) hn
       rw [h3]
   . rfl
theorem callB_keep {H : Hp} {av args : List V} {res : Res} (hL : KeepOk ks L) (hL1 : KeepOk ks L1) (hH : ∀ i ∈ ks, H i = Go.Psl.lk L i) (hb : All2 (Bor noH) av args) : CallB H av args (Go.Psl.lk L) ks res (Go.Psl.lk L1) :=
 ⟨fun i cs h => by rw [hH i (hL.isIn.1 (by rw [h]; rfl)), h], fun i h hn => absurd (hL1.isIn.1 h) hn, fun i hi => by
   obtain ⟨x, hx⟩ := Option.isSome_iff_exists.1 (hL.isIn.2 hi)
   exact ⟨x, hx, (hL.cells (i, x) (lk_mem' hx)).1⟩, Or.inl hb⟩
theorem AYield.keep {H : Hp} {b k : Nat} {av : List V} {Kc Kx : V -> Hp -> Prop} (args : List V) (L L1 : List (Nat × List V)) (ks : List Nat) (r : D) (hf : Ym P k args (Go.Psl.lk L) ks (.ret (.d r)) (Go.Psl.lk L1)) (hL : KeepOk ks L) (hL1 : KeepOk ks L1)
   (hrec : ∃ fr nt ps pa pb jmp, Go.Psl.lk L k = some [.lr fr nt ps pa pb jmp] /\ ps.length = args.length) (hH : ∀ i ∈ ks, H i = Go.Psl.lk L i) (hb : All2 (Bor noH) av args) (hk : Kc (.d r) (fun i => if i ∈ ks then Go.Psl.lk L1 i else H i)) : AYield P none H H b k av Kc Kx :=
 ⟨rfl, args, Go.Psl.lk L, ks, .ret (.d r), Go.Psl.lk L1, _, ⟨hf, hrec, callB_keep hL hL1 hH hb⟩, (heapM_keep hL hL1).symm, hk⟩
theorem ACall.keep {H : Hp} {b : Nat} {g : FuncId} {av : List V} {Kc Kx : V -> Hp -> Prop} (args : List V) (L L1 : List (Nat × List V)) (ks : List Nat) (r : V) (hf : Cm P g args (Go.Psl.lk L) ks (.ret r) (Go.Psl.lk L1)) (hL : KeepOk ks L) (hL1 : KeepOk ks L1) (hr : AV (· ∈ ks) anyD r)
   (hH : ∀ i ∈ ks, H i = Go.Psl.lk L i) (hb : All2 (Bor noH) av args) (hk : Kc r (fun i => if i ∈ ks then Go.Psl.lk L1 i else H i)) : ACall P none H H b g av Kc Kx :=
 ⟨args, Go.Psl.lk L, ks, .ret r, Go.Psl.lk L1, _, ⟨hf, callB_keep hL hL1 hH hb⟩, trivial, (heapM_keep hL hL1).symm, by show Kc (ren (sg ks b) r) _; rw [AV_ren hr]; exact hk⟩
theorem RetM.keep {fn : Func} {st : St} (hn : fn.results = #[]) (h : KeepOk ks L) (hH : ∀ i ∈ ks, st.H i = Go.Psl.lk L i) : RetM Γ fn ks (.tup []) L st :=
 ⟨[], rid ks, by rw [hn]; rfl, rfl, by simp, h.hp hH, h.inj, h.stab hH⟩
theorem PRange.keep {fo : Operand} {ps : List Nat} {pa pb : PC} {Q : AExit -> St -> Prop} {f : Nat -> V} {H : Hp} {n : Nat} {g : FuncId} {caps : List V} (L L1 : List (Nat × List V)) (ks : List Nat) (r : V) (jmp : LSt) (h0 : E.rq /\ E.nt ≠ panN) (hg : calleeOf (evF f fo) = some (g, caps))
   (hf : Cm P g (.yl n :: caps) (Go.Psl.lk ((n, [.lr f E.nt ps pa pb .ready]) :: L)) (n :: ks) (.ret r) (Go.Psl.lk ((n, [.lr f E.nt ps pa pb jmp]) :: L1)))
   (hL : KeepOk (n :: ks) ((n, [.lr f E.nt ps pa pb .ready]) :: L)) (hL1 : KeepOk (n :: ks) ((n, [.lr f E.nt ps pa pb jmp]) :: L1)) (hH : ∀ i ∈ ks, H i = Go.Psl.lk L i) (hb : All2 (Bor noH) caps caps)
   (hq : jumpQ Q ⟨f, fun i => if i = n then none else if i ∈ ks then Go.Psl.lk L1 i else H i, n + 2097152⟩ jmp) : PW P Γ eqs E (.rangeF fo ps pa pb) Q ⟨f, H, n⟩ := by
 have hH' : ∀ i ∈ n :: ks, upd H n (some [.lr f E.nt ps pa pb .ready]) i = Go.Psl.lk ((n, [.lr f E.nt ps pa pb .ready]) :: L) i := fun i hi => by
   simp only [upd_at, Go.Psl.lk]
   by_cases e : i = n
   . simp [e]
   . simp only [e, if_false]
     rcases List.mem_cons.1 hi with h | h
     . exact absurd h e
     . exact hH i h
 refine ⟨h0, g, caps, .yl n :: caps, _, n :: ks, .ret r, _, hg, ⟨hf, callB_keep hL hL1 hH' ⟨rfl, hb⟩⟩, by simp, jmp, by simp [Go.Psl.lk], ?_⟩
 have e : upd (heapM (upd H n (some [.lr f E.nt ps pa pb .ready])) (n + 1048576) (Go.Psl.lk ((n, [.lr f E.nt ps pa pb .ready]) :: L)) (n :: ks) (Go.Psl.lk ((n, [.lr f E.nt ps pa pb jmp]) :: L1))) n none = fun i => if i = n then none else if i ∈ ks then Go.Psl.lk L1 i else H i := by
   rw [heapM_keep hL hL1]
   funext i
   simp only [upd_at]
   by_cases h : i = n
   . simp [h]
   . simp [h, Go.Psl.lk]
 show jumpQ Q ⟨f, upd (heapM _ _ _ _ _) n none, n + 2097152⟩ jmp
 rw [e]; exact hq
theorem RndM.keep {k : Nat} {rc : LSt -> V} {s : LSt} {st : St} (h : KeepOk ks L) (hb : st.H k = some [rc .busy]) (hH : ∀ i ∈ ks, upd st.H k (some [rc s]) i = Go.Psl.lk L i) : RndM k rc s ks L st :=
 ⟨hb, rid ks, h.hp hH, h.inj, h.stab hH⟩
end
end Go.Psl
