/- What the claim's frame leans on. -/
import Derived.Test.YteoepeionomjlaaX2
import Derived.Test.YteoepeionomjlaaW7
